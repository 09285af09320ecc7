/- Contracts of FromInt, ToInt and Arith, program's and reference's, and the laws that they are one. -/
import Derived.Test.YtpgefgbenojjfaaFwb
namespace Go.Proofs.Ytpgefgbenojjfaa.Fw
open Go.RowKit Go.Proofs.Ytpgefgbenojjfaa.Fl

theorem ofInt_lt (n : Int) : floatOfInt .f64 n < 2 ^ 64 := by
  have := floatOfInt_wf .f64 n
  simpa [Lit.wf] using this

theorem specFromInt (n : Int) (w : World) : Calls Try.prog 17 #[.int .i64 n] w fun e w' => e = .returned (.int .i64 (bitsOf (floatOfInt .f64 n))) ∧ w = w' := by
  have hb := ofInt_lt n
  have HB := Lib.hid hb
  clear hb
  go_enter Try.func17, Try.ntmps17
  go_wp2_with (go_at_call 15; refine (specBits _ HB.out _).mono ?_; rintro e w' ⟨rfl, rfl⟩)
  go_ret
  exact ⟨rfl, rfl⟩

theorem implFromInt (n : Int) (w : World) : Calls Try.prog 18 #[.int .i64 n] w fun e w' => e = .returned (.int .i64 (bitsOf (floatOfInt .f64 n))) ∧ w = w' := by
  have hb := ofInt_lt n
  have HB := Lib.hid hb
  clear hb
  go_enter Try.func18, Try.ntmps18
  go_wp2_with (go_at_call 16; refine (implBits _ HB.out _).mono ?_; rintro e w' ⟨rfl, rfl⟩)
  go_ret
  exact ⟨rfl, rfl⟩

theorem lawFromInt (n : Int) (w : World) : Calls Try.prog 6 #[.int .i64 n] w fun e w' => e = .returned (.bool true) ∧ Below w.heap.size w w' := by
  go_enter Try.func6, Try.ntmps6
  go_wp2_with (first | (go_at_call 17; refine (specFromInt n _).mono ?_; rintro e w' ⟨rfl, rfl⟩) | (go_at_call 18; refine (implFromInt n _).mono ?_; rintro e w' ⟨rfl, rfl⟩))
  go_ret
  exact ⟨rfl, Below.refl _ _⟩

/-! ### ToInt -/
theorem is_e63 : Is 4890909195324358656 (pw 1137) := by
  refine ⟨by decide, ?_⟩
  unfold val; rw [if_neg (by decide)]
  rw [show 4890909195324358656 / 2 ^ 52 - 1 = 1085 from by decide, show 2 ^ 52 + 4890909195324358656 % 2 ^ 52 = 2 ^ 52 from by decide, ← pw52, ← pw_add]

/-- What ToInt answers of a word. -/
def toI (u : Nat) : Int :=
  if isNan u then 0 else if (FloatKind.f64.format.order u 4890909195324358656 == some .gt || FloatKind.f64.format.order u 4890909195324358656 == some .eq) then 9223372036854775807
  else if FloatKind.f64.format.order u 14114281232179134464 == some .lt then -9223372036854775808 else ((FloatKind.f64.decode u).toInt .zero).getD 0

/-- A word between both ends is cut to an int of 64 bits. -/
theorem toI_mid {u : Nat} (hu : u < 2 ^ 64) (hn : isNan u = false) (h1 : (FloatKind.f64.format.order u 4890909195324358656 == some .gt || FloatKind.f64.format.order u 4890909195324358656 == some .eq) = false)
    (h2 : (FloatKind.f64.format.order u 14114281232179134464 == some .lt) = false) : floatToIntVal .f64 u .i64 = some (toI u) := by
  have ht : toI u = ((FloatKind.f64.decode u).toInt .zero).getD 0 := by
    unfold toI; rw [hn, h1, h2]; rfl
  obtain ⟨s, r, rfl, rfl | hr⟩ := num_cases hu hn
  · exfalso
    cases s
    · have e : FloatKind.f64.format.order (Ieee.double.word false infR) 4890909195324358656 = some .gt := order_inf_fin false false is_e63
      rw [e] at h1; exact absurd h1 (by decide)
    · have e : FloatKind.f64.format.order (Ieee.double.word true infR) (Ieee.double.word true 4890909195324358656) = some .lt := order_inf_fin true true is_e63
      have e2 : Ieee.double.word true 4890909195324358656 = 14114281232179134464 := rfl
      rw [e2] at e
      rw [e] at h2; exact absurd h2 (by decide)
  · have e1 : FloatKind.f64.format.order (Ieee.double.word s r) 4890909195324358656 = some (compare (sgn s (val r)) (sgn false (pw 1137))) := order_fin s false (is_val hr) is_e63
    have e2 : FloatKind.f64.format.order (Ieee.double.word s r) 14114281232179134464 = some (compare (sgn s (val r)) (sgn true (pw 1137))) := order_fin s true (is_val hr) is_e63
    have hp : pw 1137 = 2 ^ 63 * pw 1074 := by rw [show (1137 : Nat) = 63 + 1074 from rfl, pw_add, show pw 63 = 2 ^ 63 from rfl]
    rw [e1, Int.compare_eq_ite_lt] at h1
    rw [e2, Int.compare_eq_ite_lt] at h2
    have k1 : sgn s (val r) < sgn false (pw 1137) := by
      by_cases c : sgn s (val r) < sgn false (pw 1137)
      · exact c
      · rw [if_neg c] at h1
        by_cases d : sgn false (pw 1137) < sgn s (val r)
        · rw [if_pos d] at h1; exact absurd h1 (by decide)
        · rw [if_neg d] at h1; exact absurd h1 (by decide)
    have k2 : ¬ sgn s (val r) < sgn true (pw 1137) := by
      intro c; rw [if_pos c] at h2; exact absurd h2 (by decide)
    have hd : (FloatKind.f64.decode (Ieee.double.word s r)).toInt .zero = some (sgn s (val r / pw 1074)) := toInt_fin s (is_val hr)
    rw [ht]
    unfold floatToIntVal
    rw [hd]
    have hpos := pw_pos 1074
    have hq := Nat.div_mul_le_self (val r) (pw 1074)
    have m1 : IntKind.i64.min = -9223372036854775808 := by rfl
    have m2 : IntKind.i64.max = 9223372036854775807 := by rfl
    have hb : IntKind.i64.min ≤ sgn s (val r / pw 1074) ∧ sgn s (val r / pw 1074) ≤ IntKind.i64.max := by
      rw [m1, m2]
      cases s
      · rw [sgn_false, sgn_false] at k1
        rw [sgn_false]
        have h4 : val r / pw 1074 < 2 ^ 63 := (Nat.div_lt_iff_lt_mul hpos).2 (by rw [← hp]; omega)
        clear hq
        generalize val r / pw 1074 = Q at *
        omega
      · rw [sgn_true, sgn_true] at k2
        rw [sgn_true]
        have h4 : val r / pw 1074 ≤ 2 ^ 63 := by
          have h3 : val r ≤ 2 ^ 63 * pw 1074 := by rw [← hp]; omega
          exact Nat.div_le_of_le_mul (by rw [Nat.mul_comm]; exact h3)
        clear hq
        generalize val r / pw 1074 = Q at *
        omega
    simp only [hb.1, hb.2, and_self, if_true, Option.getD_some]

set_option maxHeartbeats 1000000 in
theorem implToInt (n : Int) (w : World) : Calls Try.prog 20 #[.int .i64 n] w fun e w' => e = .returned (.int .i64 (toI (wordOf n))) ∧ w = w' := by
  have hlt := wordOf_lt n
  by_cases hn : isNan (wordOf n) = true
  · have e : toI (wordOf n) = 0 := by unfold toI; rw [if_pos hn]
    rw [e]
    clear e
    go_enter Try.func20, Try.ntmps20
    go_wp2_with (first | (go_at_call 13; refine (implFloat n _).mono ?_; rintro e w' ⟨rfl, rfl⟩) | (go_at_call 29; refine (isNaN_call _ hlt _).mono ?_; rintro e w' ⟨rfl, rfl⟩))
    go_ret
    exact ⟨rfl, rfl⟩
  · rw [Bool.not_eq_true] at hn
    by_cases h1 : (FloatKind.f64.format.order (wordOf n) 4890909195324358656 == some .gt || FloatKind.f64.format.order (wordOf n) 4890909195324358656 == some .eq) = true
    · have e : toI (wordOf n) = 9223372036854775807 := by unfold toI; rw [hn, h1]; rfl
      rw [e]
      clear e
      go_enter Try.func20, Try.ntmps20
      go_wp2_with (first | (go_at_call 13; refine (implFloat n _).mono ?_; rintro e w' ⟨rfl, rfl⟩) | (go_at_call 29; refine (isNaN_call _ hlt _).mono ?_; rintro e w' ⟨rfl, rfl⟩))
      go_ret
      exact ⟨rfl, rfl⟩
    · rw [Bool.not_eq_true] at h1
      by_cases h2 : (FloatKind.f64.format.order (wordOf n) 14114281232179134464 == some .lt) = true
      · have e : toI (wordOf n) = -9223372036854775808 := by unfold toI; rw [hn, h1, h2]; rfl
        rw [e]
        clear e
        go_enter Try.func20, Try.ntmps20
        go_wp2_with (first | (go_at_call 13; refine (implFloat n _).mono ?_; rintro e w' ⟨rfl, rfl⟩) | (go_at_call 29; refine (isNaN_call _ hlt _).mono ?_; rintro e w' ⟨rfl, rfl⟩))
        go_ret
        exact ⟨rfl, rfl⟩
      · rw [Bool.not_eq_true] at h2
        have hv := toI_mid hlt hn h1 h2
        have hc := fun w : World => run_convert_float_int (P := Try.prog) w 23 3 .f64 .i64 (wordOf n) _ (by kernel_rfl) Try.underlying3 hv
        clear hv
        generalize toI (wordOf n) = q at *
        go_enter Try.func20, Try.ntmps20
        go_wp2_with (first | (go_at_call 13; refine (implFloat n _).mono ?_; rintro e w' ⟨rfl, rfl⟩) | (go_at_call 29; refine (isNaN_call _ hlt _).mono ?_; rintro e w' ⟨rfl, rfl⟩))
        go_ret
        exact ⟨rfl, rfl⟩

theorem specFloat_N (n : Int) (w : World) (hn : isNan (wordOf n) = true) : Calls Try.prog 12 #[.int .i64 n] w fun e w' => ∃ b nq, e = .returned (.float .f64 b) ∧ FloatKind.f64.format.order b b = none ∧ w' = w.drewN nq :=
  (specFloat n w).mono fun e w' ⟨b, nq, he, hs, hw⟩ => by
    obtain ⟨hb, ⟨_, nb⟩ | ⟨na, _⟩⟩ := hs
    · exact ⟨b, nq, he, order_nan_left hb nb, hw⟩
    · rw [hn] at na; cases na

theorem specFloat_F (n : Int) (w : World) (hn : isNan (wordOf n) = false) : Calls Try.prog 12 #[.int .i64 n] w fun e w' => ∃ nq, e = .returned (.float .f64 (wordOf n)) ∧ w' = w.drewN nq :=
  (specFloat n w).mono fun e w' ⟨b, nq, he, hs, hw⟩ => by
    obtain ⟨hb, ⟨na, _⟩ | ⟨_, rfl⟩⟩ := hs
    · rw [hn] at na; cases na
    · exact ⟨nq, he, hw⟩

set_option maxHeartbeats 1000000 in
theorem specToInt (n : Int) (w : World) : Calls Try.prog 19 #[.int .i64 n] w fun e w' => ∃ nq, e = .returned (.int .i64 (toI (wordOf n))) ∧ w' = w.drewN nq := by
  have hlt := wordOf_lt n
  by_cases hn : isNan (wordOf n) = true
  · have e : toI (wordOf n) = 0 := by unfold toI; rw [if_pos hn]
    rw [e]
    clear e hlt
    have HN := Lib.hid hn
    clear hn
    go_enter Try.func19, Try.ntmps19
    go_wp2_with fail
    refine (specFloat_N n _ HN.out).mono ?_
    rintro e w' ⟨b, nq, rfl, ho, rfl⟩
    go_wp2
    go_ret
    exact ⟨nq, rfl, rfl⟩
  · rw [Bool.not_eq_true] at hn
    have ho : FloatKind.f64.format.order (wordOf n) (wordOf n) = some .eq := order_self hlt hn
    by_cases h1 : (FloatKind.f64.format.order (wordOf n) 4890909195324358656 == some .gt || FloatKind.f64.format.order (wordOf n) 4890909195324358656 == some .eq) = true
    · have e : toI (wordOf n) = 9223372036854775807 := by unfold toI; rw [hn, h1]; rfl
      rw [e]
      have HN := Lib.hid hn
      clear e hlt hn
      go_enter Try.func19, Try.ntmps19
      go_wp2_with fail
      refine (specFloat_F n _ HN.out).mono ?_
      rintro e w' ⟨nq, rfl, rfl⟩
      go_wp2
      go_ret
      exact ⟨nq, rfl, rfl⟩
    · rw [Bool.not_eq_true] at h1
      by_cases h2 : (FloatKind.f64.format.order (wordOf n) 14114281232179134464 == some .lt) = true
      · have e : toI (wordOf n) = -9223372036854775808 := by unfold toI; rw [hn, h1, h2]; rfl
        rw [e]
        have HN := Lib.hid hn
        clear e hlt hn
        go_enter Try.func19, Try.ntmps19
        go_wp2_with fail
        refine (specFloat_F n _ HN.out).mono ?_
        rintro e w' ⟨nq, rfl, rfl⟩
        go_wp2
        go_ret
        exact ⟨nq, rfl, rfl⟩
      · rw [Bool.not_eq_true] at h2
        have hv := toI_mid hlt hn h1 h2
        have hc := fun w : World => run_convert_float_int (P := Try.prog) w 23 3 .f64 .i64 (wordOf n) _ (by kernel_rfl) Try.underlying3 hv
        have HN := Lib.hid hn
        clear hv hn hlt
        generalize toI (wordOf n) = q at *
        go_enter Try.func19, Try.ntmps19
        go_wp2_with fail
        refine (specFloat_F n _ HN.out).mono ?_
        rintro e w' ⟨nq, rfl, rfl⟩
        go_wp2
        go_ret
        exact ⟨nq, rfl, rfl⟩

theorem below_drewN (w : World) (n : Nat) : Below w.heap.size w (w.drewN n) := ⟨rfl, rfl, rfl, Nat.le_refl _, fun _ _ => rfl⟩

theorem lawToInt (n : Int) (w : World) : Calls Try.prog 7 #[.int .i64 n] w fun e w' => e = .returned (.bool true) ∧ Below w.heap.size w w' := by
  go_enter Try.func7, Try.ntmps7
  go_wp2_with (first | (go_at_call 19; refine (specToInt n _).mono ?_; rintro e w' ⟨nq, rfl, rfl⟩) | (go_at_call 20; refine (implToInt n _).mono ?_; rintro e w' ⟨rfl, rfl⟩))
  go_ret
  exact ⟨rfl, below_drewN _ _⟩

/-! ### Arith -/
/-- The bits of what an operation gives. -/
def bitsRes : Option Nat → Int
  | some r => bitsOf r
  | none => 9221120237041090561

theorem res_lt {op : BinOp} {x y r : Nat} (h : floatBits op .f64 x y = some r) : r < 2 ^ 64 := by
  have := floatBits_wf h
  simpa [Lit.wf] using this

/-- An operation as the walk may take it: some word, whose bits are known. -/
theorem op_some (op : BinOp) (ho : op = .add ∨ op = .sub ∨ op = .mul ∨ op = .quo) (x y : Nat) (w : World) : ∃ r nq, r < 2 ^ 64 ∧ bitsOf r = bitsRes (floatBits op .f64 x y) ∧ (binOp op 23 (.float .f64 x) (.float .f64 y)).run Try.prog w = .ok (.float .f64 r) (w.drewN nq) := by
  cases h : floatBits op .f64 x y with
  | some r => exact ⟨r, 0, res_lt h, rfl, run_op op h w⟩
  | none =>
    have hn := nanOf_nan w x y
    exact ⟨nanOf w x y, 1, hn.2, by unfold bitsOf; rw [if_pos hn.1]; rfl, run_nan op ho h w⟩

def arithV (op : Int) (x y : Nat) : Int :=
  if op = 0 then bitsRes (floatBits .add .f64 x y) else if op = 1 then bitsRes (floatBits .sub .f64 x y) else if op = 2 then bitsRes (floatBits .mul .f64 x y) else if op = 3 then bitsRes (floatBits .quo .f64 x y)
  else if op = 4 then (if FloatKind.f64.format.order x y == some .lt then 1 else 0) else if op = 5 then (if FloatKind.f64.format.order x y == some .eq then 1 else 0) else 0

theorem nan_bits_left (op : BinOp) {x y : Nat} (hx : x < 2 ^ 64) (h : isNan x = true) : floatBits op .f64 x y = none := by
  obtain ⟨s, f, e⟩ := nan_read hx h
  have e' : FloatKind.f64.format.read x = .nan s f := e
  unfold floatBits Ieee.Format.add Ieee.Format.sub Ieee.Format.mul Ieee.Format.div
  rw [e']
  cases op <;> rfl

theorem nan_bits_right (op : BinOp) {x y : Nat} (hy : y < 2 ^ 64) (h : isNan y = true) : floatBits op .f64 x y = none := by
  obtain ⟨s, f, e⟩ := nan_read hy h
  have e' : FloatKind.f64.format.read y = .nan s f := e
  unfold floatBits Ieee.Format.add Ieee.Format.sub Ieee.Format.mul Ieee.Format.div
  rw [e']
  cases op <;> first | rfl | (cases FloatKind.f64.format.read x <;> rfl)

theorem same_bits (op : BinOp) {x y u v : Nat} (hu : u < 2 ^ 64) (hv : v < 2 ^ 64) (hx : SameW x u) (hy : SameW y v) : floatBits op .f64 x y = floatBits op .f64 u v := by
  obtain ⟨lx, ⟨nu, nx⟩ | ⟨nu, rfl⟩⟩ := hx
  · rw [nan_bits_left op lx nx, nan_bits_left op hu nu]
  · obtain ⟨ly, ⟨nv, ny⟩ | ⟨nv, rfl⟩⟩ := hy
    · rw [nan_bits_right op ly ny, nan_bits_right op hv nv]
    · rfl

theorem same_order {x y u v : Nat} (hu : u < 2 ^ 64) (hv : v < 2 ^ 64) (hx : SameW x u) (hy : SameW y v) : FloatKind.f64.format.order x y = FloatKind.f64.format.order u v := by
  obtain ⟨lx, ⟨nu, nx⟩ | ⟨nu, rfl⟩⟩ := hx
  · exact (order_nan_left lx nx).trans (order_nan_left hu nu).symm
  · obtain ⟨ly, ⟨nv, ny⟩ | ⟨nv, rfl⟩⟩ := hy
    · exact (order_nan_right ly ny).trans (order_nan_right hv nv).symm
    · rfl

theorem same_arith (op : Int) {x y u v : Nat} (hu : u < 2 ^ 64) (hv : v < 2 ^ 64) (hx : SameW x u) (hy : SameW y v) : arithV op x y = arithV op u v := by
  unfold arithV
  rw [same_bits .add hu hv hx hy, same_bits .sub hu hv hx hy, same_bits .mul hu hv hx hy, same_bits .quo hu hv hx hy, same_order hu hv hx hy]

theorem truth_call (b : Bool) (w : World) : Calls Try.prog 32 #[.bool b] w fun e w' => e = .returned (.int .i64 (if b then 1 else 0)) ∧ w = w' := by
  cases b
  · go_enter Try.func32, Try.ntmps32
    go_wp2
    go_ret
    exact ⟨rfl, rfl⟩
  · go_enter Try.func32, Try.ntmps32
    go_wp2
    go_ret
    exact ⟨rfl, rfl⟩

theorem l1bool_call (b : Bool) (w : World) : Calls Try.prog 31 #[.bool b] w fun e w' => e = .returned (.int .i64 (if b then 1 else 0)) ∧ w = w' := by
  cases b
  · go_enter Try.func31, Try.ntmps31
    go_wp2
    go_ret
    exact ⟨rfl, rfl⟩
  · go_enter Try.func31, Try.ntmps31
    go_wp2
    go_ret
    exact ⟨rfl, rfl⟩

end Go.Proofs.Ytpgefgbenojjfaa.Fw
