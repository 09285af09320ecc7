/- Plain facts on float64 for the laws FnConvert and FnArith: what is cut off is under 1; sums and products commute; a difference is a sum with the opposite. -/
import Derived.Test.YtpgefgbenojjfaaFwo
namespace Go.Proofs.Ytpgefgbenojjfaa.Fw
open Go.RowKit Go.Proofs.Ytpgefgbenojjfaa.Fl Ieee

theorem e63_pw : pw 1137 = 9223372036854775808 * pw 1074 := by rw [show (1137 : Nat) = 63 + 1074 from rfl, pw_add, show pw 63 = 9223372036854775808 from rfl]

/-- A finite word between both ends: its int is its whole part. -/
theorem toI_fin (s : Bool) {r v : Nat} (h : Is r v) (h1 : sgn s v < 9223372036854775808 * (pw 1074 : Int)) (h2 : -(9223372036854775808 * (pw 1074 : Int)) ≤ sgn s v) : toI (double.word s r) = sgn s (v / pw 1074) := by
  have hlt : r < 2 ^ 63 := is_lt h
  have hn : isNan (double.word s r) = false := by rw [isNan_word s hlt]; exact decide_eq_false (by have := h.1; omega)
  have e1 : FloatKind.f64.format.order (double.word s r) 4890909195324358656 = some (compare (sgn s v) (sgn false (pw 1137))) := order_fin s false h is_e63
  have e2 : FloatKind.f64.format.order (double.word s r) 14114281232179134464 = some (compare (sgn s v) (sgn true (pw 1137))) := order_fin s true h is_e63
  have hd : (FloatKind.f64.decode (double.word s r)).toInt .zero = some (sgn s (v / pw 1074)) := toInt_fin s h
  have c1 : sgn s v < sgn false (pw 1137) := by rw [sgn_false, e63_pw, Int.natCast_mul]; exact h1
  have c2 : ¬ sgn s v < sgn true (pw 1137) := by rw [sgn_true, e63_pw, Int.natCast_mul]; exact Int.not_lt.2 h2
  unfold toI
  rw [hn, e1, e2, hd, Int.compare_eq_ite_lt, Int.compare_eq_ite_lt, if_pos c1, if_neg c2]
  have d : ((if sgn true (pw 1137) < sgn s v then Ordering.gt else Ordering.eq) == Ordering.lt) = false := by split <;> rfl
  by_cases c : sgn true (pw 1137) < sgn s v
  · rw [if_pos c]; rfl
  · rw [if_neg c]; rfl

/-- A number of at most 53 digits, as a float. -/
theorem ofInt_form {n : Int} {s j : Nat} (h : n.natAbs = s * pw j) (hs : s < 2 ^ 53) (hj : j ≤ 971) : ∃ a, Is a (n.natAbs * pw 1074) ∧ floatOfInt .f64 n = double.word (decide (n < 0)) a := by
  obtain ⟨a, ha⟩ := is_of (s := s) (j := j + 1074) hs (by omega)
  refine ⟨a, ?_, ofInt_is h ha⟩
  rw [h, Nat.mul_assoc, ← pw_add]; exact ha

theorem sgn_abs (n : Int) : sgn (decide (n < 0)) n.natAbs = n := by
  by_cases c : n < 0
  · rw [decide_eq_true c, sgn_true]; omega
  · rw [decide_eq_false c, sgn_false]; omega

theorem wordOf_bits0 {b : Nat} (hb : b < 2 ^ 64) (hn : isNan b = false) : wordOf (bitsOf b) = b := by
  unfold bitsOf; rw [hn, if_neg (by decide)]
  unfold wordOf; rw [wrap_u64]; unfold wrap64; omega

theorem there_back {n : Int} (h1 : -9007199254740992 ≤ n) (h2 : n ≤ 9007199254740992) : toI (wordOf (bitsOf (floatOfInt .f64 n))) = n := by
  obtain ⟨s, j, h, hs, hj⟩ : ∃ s j, n.natAbs = s * pw j ∧ s < 2 ^ 53 ∧ j ≤ 971 := by
    by_cases c : n.natAbs < 2 ^ 53
    · exact ⟨n.natAbs, 0, by rw [pw_zero, Nat.mul_one], c, by omega⟩
    · exact ⟨2 ^ 52, 1, by rw [show pw 1 = 2 from rfl]; omega, by decide, by omega⟩
  obtain ⟨a, ha, e⟩ := ofInt_form h hs hj
  have hlt : a < 2 ^ 63 := is_lt ha
  have hn : isNan (floatOfInt .f64 n) = false := by rw [e, isNan_word _ hlt]; exact decide_eq_false (by have := ha.1; omega)
  rw [wordOf_bits0 (ofInt_lt n) hn, e]
  have hp := pw_pos 1074
  have hv : sgn (decide (n < 0)) (n.natAbs * pw 1074) = n * (pw 1074 : Int) := by rw [sgn_mul, sgn_abs]
  rw [toI_fin _ ha, Nat.mul_div_cancel _ hp, sgn_abs]
  · rw [hv]; exact Int.mul_lt_mul_of_pos_right (by omega) (by omega)
  · rw [hv, ← Int.neg_mul]; exact Int.mul_le_mul_of_nonneg_right (by omega) (by omega)

theorem read_neg (s : Bool) {r : Nat} (h : r < 2 ^ 63) : (∃ f g, double.read (double.word s r) = .nan s f ∧ double.read (double.word (!s) r) = .nan (!s) g) ∨ double.read (double.word (!s) r) = (double.read (double.word s r)).opposite ∧ ∀ t f, double.read (double.word s r) ≠ .nan t f := by
  rw [read_word s h, read_word (!s) h]
  by_cases c1 : r < 2 ^ 52
  · rw [if_pos c1, if_pos c1]; exact .inr ⟨rfl, fun _ _ => by simp⟩
  rw [if_neg c1, if_neg c1]
  by_cases c2 : r < infR
  · rw [if_pos c2, if_pos c2]; exact .inr ⟨rfl, fun _ _ => by simp⟩
  rw [if_neg c2, if_neg c2]
  by_cases c3 : r = infR
  · rw [if_pos c3, if_pos c3]; exact .inr ⟨rfl, fun _ _ => by simp⟩
  rw [if_neg c3, if_neg c3]
  exact .inl ⟨_, _, rfl, rfl⟩

theorem sum_nan (x : Datum) (s : Bool) (f : Nat) : x.sum (.nan s f) = none := by cases x <;> rfl

/-- A difference is the sum with the opposite. -/
theorem sub_word (x : Nat) (s : Bool) {r : Nat} (h : r < 2 ^ 63) : floatBits .sub .f64 x (double.word s r) = floatBits .add .f64 x (double.word (!s) r) := by
  show double.sub x _ = double.add x _
  unfold Format.sub Format.add
  rcases read_neg s h with ⟨f, g, e1, e2⟩ | ⟨e, _⟩
  · rw [e1, e2, sum_nan]
    have : (Datum.nan s f).opposite = .nan (!s) f ∨ (Datum.nan s f).opposite = .nan s f := by first | exact .inl rfl | exact .inr rfl
    rcases this with k | k <;> rw [k, sum_nan]
  · rw [e]

theorem sum_comm : ∀ x y : Datum, x.sum y = y.sum x
  | .nan .., y => by cases y <;> rfl
  | .infinity s, .nan .. => rfl
  | .infinity s, .infinity t => by cases s <;> cases t <;> rfl
  | .infinity s, .number .. => rfl
  | .number .., .nan .. => rfl
  | .number .., .infinity t => rfl
  | .number s m i, .number t n j => by
    simp only [Datum.sum, Int.min_comm i j, Int.add_comm (signed s m _) _, Bool.and_comm s t]
theorem product_comm : ∀ x y : Datum, x.product y = y.product x
  | .nan .., y => by cases y <;> rfl
  | .infinity s, .nan .. => rfl
  | .infinity s, .infinity t => by cases s <;> cases t <;> rfl
  | .infinity s, .number t n j => by simp only [Datum.product, Bool.xor_comm s t]
  | .number .., .nan .. => rfl
  | .number s m i, .infinity t => by simp only [Datum.product]
  | .number s m i, .number t n j => by
    simp only [Datum.product, Nat.mul_comm m n, Int.add_comm i j, Bool.xor_comm s t]
theorem add_comm (x y : Nat) : floatBits .add .f64 x y = floatBits .add .f64 y x := by
  show double.add x y = double.add y x
  unfold Format.add; rw [sum_comm]
theorem mul_comm (x y : Nat) : floatBits .mul .f64 x y = floatBits .mul .f64 y x := by
  show double.mul x y = double.mul y x
  unfold Format.mul; rw [product_comm]

theorem cmp_swap (a b : Int) : compare b a = (compare a b).swap := by
  rw [Int.compare_eq_ite_lt, Int.compare_eq_ite_lt]
  by_cases c : a < b
  · rw [if_pos c, if_neg (by omega), if_pos c]; rfl
  · by_cases d : b < a
    · rw [if_pos d, if_neg c, if_pos d]; rfl
    · rw [if_neg d, if_neg c, if_neg c, if_neg d]; rfl
theorem dorder_swap : ∀ x y : Datum, y.order x = (x.order y).map Ordering.swap
  | .nan .., y => by cases y <;> rfl
  | .infinity s, .nan .. => rfl
  | .infinity s, .infinity t => by cases s <;> cases t <;> rfl
  | .infinity s, .number .. => by cases s <;> rfl
  | .number .., .nan .. => rfl
  | .number .., .infinity t => by cases t <;> rfl
  | .number s m i, .number t n j => by
    simp only [Datum.order, Option.map_some, Int.min_comm j i]
    rw [cmp_swap]
theorem order_swap (x y : Nat) : FloatKind.f64.format.order y x = (FloatKind.f64.format.order x y).map Ordering.swap := dorder_swap _ _

theorem order_num {x y : Nat} (hx : x < 2 ^ 64) (hy : y < 2 ^ 64) (nx : isNan x = false) (ny : isNan y = false) : ∃ o, FloatKind.f64.format.order x y = some o := by
  show ∃ o, double.order x y = some o
  obtain ⟨s, r, rfl, rfl | hr⟩ := num_cases hx nx
  · obtain ⟨t, q, rfl, rfl | hq⟩ := num_cases hy ny
    · unfold Format.order; rw [read_inf, read_inf]; exact ⟨_, rfl⟩
    · exact ⟨_, order_inf_fin s t (is_val hq)⟩
  · obtain ⟨t, q, rfl, rfl | hq⟩ := num_cases hy ny
    · exact ⟨_, order_fin_inf s t (is_val hr)⟩
    · exact ⟨_, order_fin s t (is_val hr) (is_val hq)⟩


/-- The whole part of a finite float, and what is over: both are floats' numbers. -/
theorem whole_part {r : Nat} (hr : r < infR) : ∃ q m : Nat, val r = q * pw 1074 + m ∧ (∃ a b, q = a * pw b ∧ a < 2 ^ 53 ∧ b ≤ 971) ∧ (∃ c, Is c m) ∧ m < pw 1074 ∧ val r / pw 1074 = q := by
  obtain ⟨σ, j, hj, hs, hj2, _⟩ := val_form hr
  have hp := pw_pos 1074
  by_cases c : 1074 ≤ j
  · have ej : σ * pw j = σ * pw (j - 1074) * pw 1074 := by rw [Nat.mul_assoc, ← pw_add, Nat.sub_add_cancel c]
    refine ⟨σ * pw (j - 1074), 0, by rw [hj, ej, Nat.add_zero], ⟨σ, j - 1074, rfl, hs, by omega⟩, ⟨0, is_zero⟩, hp, by rw [hj, ej, Nat.mul_div_cancel _ hp]⟩
  · have ej : pw 1074 = pw (1074 - j) * pw j := by rw [← pw_add, Nat.sub_add_cancel (by omega)]
    have hpj := pw_pos j
    have hpk := pw_pos (1074 - j)
    have d1 : σ = pw (1074 - j) * (σ / pw (1074 - j)) + σ % pw (1074 - j) := (Nat.div_add_mod _ _).symm
    have d2 : σ % pw (1074 - j) < pw (1074 - j) := Nat.mod_lt _ hpk
    have d3 : σ % pw (1074 - j) ≤ σ := Nat.mod_le _ _
    have d4 : σ / pw (1074 - j) ≤ σ := Nat.div_le_self _ _
    obtain ⟨c2, hc2⟩ := is_of (s := σ % pw (1074 - j)) (j := j) (by omega) hj2
    have dv : val r = σ / pw (1074 - j) * pw 1074 + σ % pw (1074 - j) * pw j := by
      have d5 : σ = σ / pw (1074 - j) * pw (1074 - j) + σ % pw (1074 - j) := by rw [Nat.mul_comm]; exact d1
      rw [hj, ej, ← Nat.mul_assoc, ← Nat.add_mul]
      exact congrArg (fun z => z * pw j) d5
    have dl : σ % pw (1074 - j) * pw j < pw 1074 := by rw [ej]; exact Nat.mul_lt_mul_of_pos_right d2 hpj
    refine ⟨σ / pw (1074 - j), σ % pw (1074 - j) * pw j, dv, ⟨σ / pw (1074 - j), 0, by rw [pw_zero, Nat.mul_one], by omega, by omega⟩, ⟨c2, hc2⟩, dl, ?_⟩
    rw [dv, Nat.mul_comm, Nat.mul_add_div hp, Nat.div_eq_of_lt dl, Nat.add_zero]

theorem sgn_not (t : Bool) (v : Nat) : sgn (!t) v = - sgn t v := by cases t <;> simp [sgn]
theorem sgn_over (s : Bool) {v z m : Nat} (h : v = z + m) : sgn s v + - sgn s z = sgn s m := by
  subst h
  cases s
  · simp only [sgn_false]; omega
  · simp only [sgn_true]; omega
theorem sgn_natAbs (s : Bool) (q : Nat) : (sgn s q).natAbs = q := by cases s <;> simp [sgn]

/-- What a float has beyond its whole part is under 1, and the difference is exact. -/
theorem cut_diff {f : Nat} (hf : f < 2 ^ 64) (hn : isNan f = false) (h1 : (FloatKind.f64.format.order f 4890909195324358656 == some .gt || FloatKind.f64.format.order f 4890909195324358656 == some .eq) = false)
    (h2 : (FloatKind.f64.format.order f 14114281232179134464 == some .lt) = false) :
    ∃ d, floatBits .sub .f64 f (floatOfInt .f64 (toI f)) = some d ∧ FloatKind.f64.format.order d 4607182418800017408 = some .lt ∧ FloatKind.f64.format.order d 13830554455654793216 = some .gt := by
  obtain ⟨s, r, rfl, rfl | hr⟩ := num_cases hf hn
  · exfalso
    cases s
    · have e : FloatKind.f64.format.order (double.word false infR) 4890909195324358656 = some .gt := order_inf_fin false false is_e63
      rw [e] at h1; exact absurd h1 (by decide)
    · have e : FloatKind.f64.format.order (double.word true infR) (double.word true 4890909195324358656) = some .lt := order_inf_fin true true is_e63
      have e2 : double.word true 4890909195324358656 = 14114281232179134464 := rfl
      rw [e2] at e
      rw [e] at h2; exact absurd h2 (by decide)
  · have hv := is_val hr
    have e1 : FloatKind.f64.format.order (double.word s r) 4890909195324358656 = some (compare (sgn s (val r)) (sgn false (pw 1137))) := order_fin s false hv is_e63
    have e2 : FloatKind.f64.format.order (double.word s r) 14114281232179134464 = some (compare (sgn s (val r)) (sgn true (pw 1137))) := order_fin s true hv is_e63
    rw [e1, Int.compare_eq_ite_lt] at h1
    rw [e2, Int.compare_eq_ite_lt] at h2
    have k1 : sgn s (val r) < sgn false (pw 1137) := by
      by_cases c : sgn s (val r) < sgn false (pw 1137)
      · exact c
      · rw [if_neg c] at h1
        by_cases d : sgn false (pw 1137) < sgn s (val r)
        · rw [if_pos d] at h1; exact absurd h1 (by decide)
        · rw [if_neg d] at h1; exact absurd h1 (by decide)
    have k2 : ¬ sgn s (val r) < sgn true (pw 1137) := by
      intro c; rw [if_pos c] at h2; exact absurd h2 (by decide)
    rw [sgn_false, e63_pw, Int.natCast_mul] at k1
    rw [sgn_true, e63_pw, Int.natCast_mul] at k2
    have ht : toI (double.word s r) = sgn s (val r / pw 1074) := toI_fin s hv k1 (Int.not_lt.1 k2)
    obtain ⟨q, m, hqm, hq, hm, hlt, hqv⟩ := whole_part hr
    obtain ⟨a, b, hab, ha, hb⟩ := hq
    obtain ⟨c, hc⟩ := hm
    rw [ht, hqv]
    have hna : (sgn s q).natAbs = q := sgn_natAbs s q
    obtain ⟨A, hA, eA⟩ := ofInt_form (n := sgn s q) (by rw [hna]; exact hab) ha hb
    rw [hna] at hA
    rw [eA, sub_word _ _ (is_lt hA)]
    generalize ht2 : decide (sgn s q < 0) = t
    have hdiff : sgn s (val r) + sgn (!t) (q * pw 1074) = sgn s m := by
      have e3 : sgn t (q * pw 1074) = sgn s (q * pw 1074) := by
        have := sgn_abs (sgn s q)
        rw [hna, ht2] at this
        rw [sgn_mul, sgn_mul, this]
      rw [sgn_not, e3]
      exact sgn_over s hqm
    have hma : (sgn s m).natAbs = m := sgn_natAbs s m
    have hsum := sum_fin s (!t) hv hA (c := c) (by rw [hdiff, hma]; exact hc)
    rw [hdiff] at hsum
    refine ⟨_, hsum, ?_, ?_⟩
    · generalize (if sgn s m = 0 then s && !t else decide (sgn s m < 0)) = u
      have e3 : FloatKind.f64.format.order (double.word u c) (double.word false 4607182418800017408) = some (compare (sgn u m) (sgn false (pw 1074))) := order_fin u false hc is_one
      rw [word_false] at e3
      rw [e3, Int.compare_eq_ite_lt, if_pos]
      cases u
      · simp only [sgn_false]; omega
      · simp only [sgn_false, sgn_true]; omega
    · generalize (if sgn s m = 0 then s && !t else decide (sgn s m < 0)) = u
      have e3 : FloatKind.f64.format.order (double.word u c) (double.word true 4607182418800017408) = some (compare (sgn u m) (sgn true (pw 1074))) := order_fin u true hc is_one
      have e4 : double.word true 4607182418800017408 = 13830554455654793216 := rfl
      rw [e4] at e3
      rw [e3, Int.compare_eq_ite_lt, if_neg, if_pos]
      · cases u
        · simp only [sgn_false, sgn_true]; omega
        · simp only [sgn_true]; omega
      · cases u
        · simp only [sgn_false, sgn_true]; omega
        · simp only [sgn_true]; omega

end Go.Proofs.Ytpgefgbenojjfaa.Fw
