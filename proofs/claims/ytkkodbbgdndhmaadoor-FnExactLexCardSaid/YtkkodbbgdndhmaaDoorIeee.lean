/- Plain facts on float64 words (Ieee.double): what finite words stand for, counted in units of pw -1074; sums, products and quotients that are exact. No program is spoken of. -/
import Derived.Laws.FloatArith
namespace Go.Proofs.YtkkodbbgdndhmaaDoor.Fl
open Ieee Go.RowKit

/-- A power of two; a name of its own, so that no great one is ever counted out. -/
def pw (n : Nat) : Nat := 2 ^ n
theorem pw_zero : pw 0 = 1 := rfl
theorem pw_add (a b : Nat) : pw (a + b) = pw a * pw b := Nat.pow_add 2 a b
theorem pw_succ (a : Nat) : pw (a + 1) = pw a * 2 := Nat.pow_succ ..
theorem pw_pos (a : Nat) : 0 < pw a := Nat.two_pow_pos a
theorem shl_eq (m a : Nat) : m <<< a = m * pw a := Nat.shiftLeft_eq m a
theorem one_shl (a : Nat) : 1 <<< a = pw a := Nat.one_shiftLeft a
theorem log2_lt' {n k : Nat} (h : n ≠ 0) : n.log2 < k ↔ n < pw k := Nat.log2_lt h
theorem le_log2' {n k : Nat} (h : n ≠ 0) : k ≤ n.log2 ↔ pw k ≤ n := Nat.le_log2 h
theorem log2_self' {n : Nat} (h : n ≠ 0) : pw n.log2 ≤ n := Nat.log2_self_le h
theorem lt_log2' {n : Nat} : n < pw (n.log2 + 1) := Nat.lt_log2_self
theorem pw52 : pw 52 = 2 ^ 52 := rfl
theorem pw53 : pw 53 = 2 ^ 53 := rfl

/-- What the rung r (below infinity) stands for, in units of pw -1074. -/
def val (r : Nat) : Nat := if r < 2 ^ 52 then r else (2 ^ 52 + r % 2 ^ 52) * pw (r / 2 ^ 52 - 1)

/-- The rung of infinity. -/
def infR : Nat := 2047 * 2 ^ 52

theorem infR_eq : double.infRung = infR := rfl
theorem binade_eq : double.binade = 2 ^ 52 := rfl
theorem sign_eq : double.signWeight = 2 ^ 63 := rfl
theorem least_eq : double.leastPlace = -1074 := by decide
theorem frac_eq : double.fractionBits = 52 := rfl

theorem log2_of {n k : Nat} (h0 : pw k ≤ n) (h1 : n < pw (k + 1)) : n.log2 = k := by
  have hn : n ≠ 0 := by have := pw_pos k; omega
  have a : n.log2 < k + 1 := (log2_lt' hn).2 h1
  have b : k ≤ n.log2 := (le_log2' hn).2 h0
  omega

theorem log2_mul_pow {n : Nat} (hn : n ≠ 0) (j : Nat) : (n * pw j).log2 = n.log2 + j := by
  have h0 := log2_self' hn
  have h1 : n < pw (n.log2 + 1) := lt_log2'
  refine log2_of ?_ ?_
  · rw [pw_add]; exact Nat.mul_le_mul_right _ h0
  · rw [show n.log2 + j + 1 = (n.log2 + 1) + j from by omega, pw_add]
    exact (Nat.mul_lt_mul_right (pw_pos j)).2 h1

/-- A cut that leaves nothing over. -/
theorem cut_exact (neg : Bool) (q drop : Nat) (hq : q ≠ 0) : Toward.even.cut neg (q * pw drop) drop = q := by
  unfold Toward.cut
  have hl := log2_mul_pow hq drop
  have hm : min drop ((q * pw drop).log2 + 2) = drop := by omega
  simp only [hm, one_shl]
  rw [Nat.mul_div_cancel _ (pw_pos _), Nat.mul_mod_left]
  have hp := pw_pos drop
  have e1 : decide (pw drop < 2 * 0) = false := decide_eq_false (by omega)
  have e2 : (pw drop == 2 * 0) = false := beq_eq_false_iff_ne.2 (by omega)
  simp only [e1, e2, Bool.false_and, Bool.or_self, Bool.toNat_false, Nat.add_zero]

/-- mag * pw place, in units of pw -1074, is v. -/
def Units (mag : Nat) (place : Int) (v : Nat) : Prop :=
  mag * pw (place + 1074).toNat = v * pw (-1074 - place).toNat

theorem val_log {r : Nat} (hr : 2 ^ 52 ≤ r) : (val r).log2 = 52 + (r / 2 ^ 52 - 1) := by
  unfold val
  rw [if_neg (by omega), log2_mul_pow (by omega)]
  rw [log2_of (k := 52) (by rw [pw52]; omega) (by rw [pw53]; have := Nat.mod_lt r (show 0 < 2 ^ 52 by decide); omega)]

theorem val_pos {r : Nat} (hr : 0 < r) : 0 < val r := by
  unfold val
  split
  · exact hr
  · exact Nat.mul_pos (by omega) (pw_pos _)

theorem units_ne {mag : Nat} {place : Int} {v : Nat} (h : Units mag place v) (hv : v ≠ 0) : mag ≠ 0 := by
  intro e
  subst e
  unfold Units at h
  have := Nat.mul_pos (Nat.pos_of_ne_zero hv) (pw_pos (-1074 - place).toNat)
  omega

theorem units_log {mag : Nat} {place : Int} {v : Nat} (h : Units mag place v) (hv : v ≠ 0) : place + (mag.log2 : Int) = -1074 + v.log2 := by
  have hm := units_ne h hv
  have e := congrArg Nat.log2 h
  rw [log2_mul_pow hm, log2_mul_pow hv] at e
  omega

/-- The word nearest to what a rung stands for is that rung's. -/
theorem nearest_val (neg : Bool) {mag : Nat} {place : Int} {r : Nat} (hr : r < infR) (h : Units mag place (val r)) : double.nearest neg mag place = double.word neg r := by
  unfold Format.nearest
  by_cases hz : r = 0
  · subst hz
    have hm : mag = 0 := by
      unfold Units at h
      have e0 : val 0 = 0 := by unfold val; rw [if_pos (by decide)]
      rw [e0, Nat.zero_mul] at h
      rcases Nat.mul_eq_zero.1 h with h | h
      · exact h
      · have := pw_pos (place + 1074).toNat; omega
    rw [if_pos hm]
  · have hv : val r ≠ 0 := by have := val_pos (Nat.pos_of_ne_zero hz); omega
    have hm := units_ne h hv
    have hl := units_log h hv
    rw [if_neg hm]
    simp only [least_eq, frac_eq, binade_eq, infR_eq]
    -- the last place that is kept, and what is kept
    have main : ∀ E s : Nat, val r = s * pw E → s ≠ 0 → max (place + (mag.log2 : Int) - (52 : Nat)) (-1074) = -1074 + E → E * 2 ^ 52 + s = r →
        double.word neg (min ((max (place + (mag.log2 : Int) - (52 : Nat)) (-1074) - -1074).toNat * 2 ^ 52 + Toward.even.cut neg (mag <<< (place - max (place + (mag.log2 : Int) - (52 : Nat)) (-1074)).toNat) (max (place + (mag.log2 : Int) - (52 : Nat)) (-1074) - place).toNat) infR) = double.word neg r := by
      intro E s hs hs0 hlast hrs
      rw [hlast]
      have hk : Toward.even.cut neg (mag <<< (place - (-1074 + (E : Int))).toNat) ((-1074 + (E : Int)) - place).toNat = s := by
        rw [shl_eq]
        unfold Units at h
        rw [hs] at h
        have hx : mag * pw (place - (-1074 + (E : Int))).toNat = s * pw ((-1074 + (E : Int)) - place).toNat := by
          by_cases c : place ≤ -1074
          · have a1 : (place + 1074).toNat = 0 := by omega
            have a2 : (place - (-1074 + (E : Int))).toNat = 0 := by omega
            have a3 : ((-1074 + (E : Int)) - place).toNat = E + (-1074 - place).toNat := by omega
            rw [a1] at h
            rw [a2, a3, h, pw_add, Nat.mul_assoc]
          · have a1 : (-1074 - place).toNat = 0 := by omega
            rw [a1, pw_zero, Nat.mul_one] at h
            by_cases c2 : place + 1074 ≤ E
            · have a2 : (place - (-1074 + (E : Int))).toNat = 0 := by omega
              have a3 : pw E = pw ((-1074 + (E : Int)) - place).toNat * pw (place + 1074).toNat := by
                rw [← pw_add]; exact congrArg pw (by omega)
              rw [a3, ← Nat.mul_assoc] at h
              rw [a2, pw_zero, Nat.mul_one]
              exact Nat.eq_of_mul_eq_mul_right (pw_pos _) h
            · have a2 : ((-1074 + (E : Int)) - place).toNat = 0 := by omega
              have a3 : pw (place + 1074).toNat = pw (place - (-1074 + (E : Int))).toNat * pw E := by
                rw [← pw_add]; exact congrArg pw (by omega)
              rw [a3, ← Nat.mul_assoc] at h
              rw [a2, pw_zero, Nat.mul_one]
              exact Nat.eq_of_mul_eq_mul_right (pw_pos _) h
        rw [hx]
        exact cut_exact neg s _ hs0
      rw [hk]
      have : (-1074 + (E : Int) - -1074).toNat = E := by omega
      rw [this, hrs, Nat.min_eq_left (by omega)]
    by_cases hn : r < 2 ^ 52
    · refine main 0 r ?_ hz ?_ (by rw [Nat.zero_mul, Nat.zero_add])
      · unfold val; rw [if_pos hn, pw_zero, Nat.mul_one]
      · have : (val r).log2 < 52 := by
          unfold val; rw [if_pos hn]
          exact (log2_lt' hz).2 hn
        omega
    · have hvl := val_log (r := r) (by omega)
      refine main (r / 2 ^ 52 - 1) (2 ^ 52 + r % 2 ^ 52) ?_ (by omega) ?_ ?_
      · unfold val; rw [if_neg hn]
      · have : 1 ≤ r / 2 ^ 52 := by omega
        omega
      · have h1 : 1 ≤ r / 2 ^ 52 := by omega
        have h2 := Nat.div_add_mod r (2 ^ 52)
        omega

/-- The word a (its sign bit not set) is the number v * pw -1074. -/
def Is (a v : Nat) : Prop := a < infR ∧ val a = v

theorem read_fin (neg : Bool) {a v : Nat} (h : Is a v) : ∃ m p, double.read (double.word neg a) = .number neg m p ∧ m * pw (p + 1074).toNat = v ∧ -1074 ≤ p ∧ m < 2 ^ 53 := by
  obtain ⟨h1, rfl⟩ := h
  have hi : infR < 2 ^ 63 := by decide
  have e1 : double.word neg a / 2 ^ 63 % 2 = if neg then 1 else 0 := by
    unfold Format.word; rw [sign_eq]; cases neg <;> simp <;> omega
  have e2 : double.word neg a % 2 ^ 63 = a := by
    unfold Format.word; rw [sign_eq]; cases neg <;> simp <;> omega
  have e3 : ((double.word neg a / 2 ^ 63 % 2) == 1) = neg := by rw [e1]; cases neg <;> rfl
  unfold Format.read
  simp only [sign_eq, binade_eq, infR_eq, least_eq, e2, e3]
  by_cases hn : a < 2 ^ 52
  · refine ⟨a, -1074, by rw [if_pos hn], ?_, by omega, by omega⟩
    unfold val; rw [if_pos hn]; exact Nat.mul_one a
  · refine ⟨2 ^ 52 + a % 2 ^ 52, -1074 + ((a / 2 ^ 52 - 1 : Nat) : Int), by rw [if_neg hn, if_pos h1], ?_, by omega, by omega⟩
    unfold val; rw [if_neg hn]
    exact congrArg (fun x => (2 ^ 52 + a % 2 ^ 52) * pw x) (by omega)

/-- What has at most 53 digits and is not too great is a word's number. -/
theorem is_of {s j : Nat} (hs : s < 2 ^ 53) (hj : j ≤ 2045) : ∃ a, Is a (s * pw j) := by
  induction j generalizing s with
  | zero =>
    refine ⟨s, by unfold infR; omega, ?_⟩
    unfold val
    rw [pw_zero, Nat.mul_one]
    split
    · rfl
    · have : s / 2 ^ 52 = 1 := by omega
      rw [this, Nat.sub_self, pw_zero, Nat.mul_one]; omega
  | succ j ih =>
    by_cases c : s < 2 ^ 52
    · obtain ⟨a, ha⟩ := ih (s := 2 * s) (by omega) (by omega)
      refine ⟨a, ?_⟩
      rw [show s * pw (j + 1) = 2 * s * pw j from by rw [pw_succ, Nat.mul_comm 2 s, Nat.mul_assoc, Nat.mul_comm 2 (pw j)]]
      exact ha
    · refine ⟨(j + 2) * 2 ^ 52 + (s - 2 ^ 52), by unfold infR; omega, ?_⟩
      unfold val
      rw [if_neg (by omega)]
      have d : ((j + 2) * 2 ^ 52 + (s - 2 ^ 52)) / 2 ^ 52 = j + 2 := by omega
      have m : ((j + 2) * 2 ^ 52 + (s - 2 ^ 52)) % 2 ^ 52 = s - 2 ^ 52 := by omega
      rw [d, m, show 2 ^ 52 + (s - 2 ^ 52) = s from by omega]
      rfl

theorem is_lt {a v : Nat} (h : Is a v) : a < 2 ^ 63 := by
  have hi : infR < 2 ^ 63 := by decide
  have := h.1
  omega

/-- 'Units', at any common exponent. -/
theorem units_at {mag : Nat} {place : Int} {v : Nat} (N : Nat) (h1 : 1074 ≤ N) (h2 : 0 ≤ (N : Int) + place) (h : mag * pw ((N : Int) + place).toNat = v * pw (N - 1074)) : Units mag place v := by
  unfold Units
  by_cases c : place ≤ -1074
  · have a1 : (place + 1074).toNat = 0 := by omega
    have a2 : N - 1074 = (-1074 - place).toNat + ((N : Int) + place).toNat := by omega
    rw [a2, pw_add, ← Nat.mul_assoc] at h
    rw [a1, pw_zero, Nat.mul_one]
    exact Nat.eq_of_mul_eq_mul_right (pw_pos _) h
  · have a1 : (-1074 - place).toNat = 0 := by omega
    have a2 : ((N : Int) + place).toNat = (place + 1074).toNat + (N - 1074) := by omega
    rw [a2, pw_add, ← Nat.mul_assoc] at h
    rw [a1, pw_zero, Nat.mul_one]
    exact Nat.eq_of_mul_eq_mul_right (pw_pos _) h

theorem write_fin (neg : Bool) {m : Nat} {p : Int} {a v : Nat} (h : Is a v) (hu : Units m p v) : double.write (.number neg m p) = double.word neg a := by
  obtain ⟨h1, rfl⟩ := h
  exact nearest_val neg h1 hu

/-- A product that is exact: in units, v * u = t * pw 1074. -/
theorem mul_fin (s t : Bool) {a v b u c x : Nat} (ha : Is a v) (hb : Is b u) (hc : Is c x) (h : v * u = x * pw 1074) :
    double.mul (double.word s a) (double.word t b) = some (double.word (s ^^ t) c) := by
  obtain ⟨m, i, e1, h1, h2, _⟩ := read_fin s ha
  obtain ⟨n, j, e3, h3, h4, _⟩ := read_fin t hb
  unfold Format.mul
  rw [e1, e3]
  simp only [Datum.product, Option.map_some]
  rw [write_fin (s ^^ t) hc (units_at 2148 (by omega) (by omega) ?_)]
  rw [show ((2148 : Nat) : Int) + (i + j) = (i + 1074) + (j + 1074) from by omega, Int.toNat_add (by omega) (by omega), pw_add]
  rw [show m * n * (pw (i + 1074).toNat * pw (j + 1074).toNat) = (m * pw (i + 1074).toNat) * (n * pw (j + 1074).toNat) from by
    simp only [Nat.mul_assoc, Nat.mul_left_comm]]
  rw [h1, h3, h]

/-- A quotient by a power of two that is exact: in units, x * pw (e + 1074) = v * pw 1074, the divisor being pw e. -/
theorem div_fin (s : Bool) {a v b c x e : Nat} (ha : Is a v) (hb : double.read b = .number false (2 ^ 52) ((e : Int) - 52)) (hc : Is c x) (h : x * pw e = v) :
    double.div (double.word s a) b = some (double.word s c) := by
  obtain ⟨m, i, e1, h1, h2, h5⟩ := read_fin s ha
  unfold Format.div
  rw [e1, hb]
  have hne : (2 ^ 52 : Nat) ≠ 0 := by decide
  have hl : (2 ^ 52 : Nat).log2 = 52 := by decide
  simp only [Datum.quotient, hne, if_false, Option.map_some, frac_eq, hl]
  have hm : m.log2 ≤ 52 := by
    by_cases c0 : m = 0
    · subst c0; decide
    · have := (log2_lt' c0).2 h5; omega
  have hs : (s ^^ false) = s := by cases s <;> rfl
  obtain ⟨q, hq⟩ : ∃ q, 52 + 2 + 52 - m.log2 = 52 + q := ⟨52 + 2 - m.log2, by omega⟩
  rw [hs, hq, shl_eq, pw_add]
  rw [pw52, show m * (2 ^ 52 * pw q) = (m * pw q) * 2 ^ 52 from by rw [Nat.mul_comm (2 ^ 52) (pw q), Nat.mul_assoc]]
  rw [Nat.mul_div_cancel _ (by decide), Nat.mul_mod_left]
  have z : ((0 : Nat) != 0).toNat = 0 := rfl
  rw [z, Nat.add_zero]
  rw [write_fin s hc (units_at (1074 + q + e + 1) (by omega) (by omega) ?_)]
  rw [show ((1074 + q + e + 1 : Nat) : Int) + (i - ((e : Int) - 52) - ((52 + q : Nat) : Int) - 1) = i + 1074 from by omega]
  rw [show 1074 + q + e + 1 - 1074 = e + (q + 1) from by omega, pw_add e, ← Nat.mul_assoc x, h, ← h1]
  rw [pw_succ]
  simp only [Nat.mul_comm, Nat.mul_assoc, Nat.mul_left_comm]

def sgn (s : Bool) (v : Nat) : Int := if s then -(v : Int) else (v : Int)

theorem signed_eq (s : Bool) (m up : Nat) : signed s m up = sgn s (m * pw up) := by
  unfold signed sgn; rw [shl_eq]

theorem sgn_mul (s : Bool) (v k : Nat) : sgn s (v * k) = sgn s v * (k : Int) := by
  unfold sgn; cases s <;> simp [Int.neg_mul]

/-- A sum that is exact. -/
theorem sum_fin (s t : Bool) {a v b u c : Nat} (ha : Is a v) (hb : Is b u) (hc : Is c (sgn s v + sgn t u).natAbs) :
    double.add (double.word s a) (double.word t b) = some (double.word (if sgn s v + sgn t u = 0 then s && t else decide (sgn s v + sgn t u < 0)) c) := by
  obtain ⟨m, i, e1, h1, h2, _⟩ := read_fin s ha
  obtain ⟨n, j, e3, h3, h4, _⟩ := read_fin t hb
  unfold Format.add
  rw [e1, e3]
  simp only [Datum.sum, Option.map_some, signed_eq]
  have hbase : -1074 ≤ min i j := by omega
  have p1 : (i + 1074).toNat = (i - min i j).toNat + (min i j + 1074).toNat := by omega
  have p2 : (j + 1074).toNat = (j - min i j).toNat + (min i j + 1074).toNat := by omega
  have tot : (sgn s (m * pw (i - min i j).toNat) + sgn t (n * pw (j - min i j).toNat)) * ((pw (min i j + 1074).toNat : Nat) : Int) = sgn s v + sgn t u := by
    rw [Int.add_mul, ← sgn_mul, ← sgn_mul, Nat.mul_assoc, Nat.mul_assoc, ← pw_add, ← pw_add, ← p1, ← p2, h1, h3]
  generalize sgn s (m * pw (i - min i j).toNat) + sgn t (n * pw (j - min i j).toNat) = T at tot
  have hp : (0 : Int) < ((pw (min i j + 1074).toNat : Nat) : Int) := Int.natCast_pos.2 (pw_pos _)
  have z : (T = 0) ↔ (sgn s v + sgn t u = 0) := by
    rw [← tot]
    constructor
    · intro h; rw [h, Int.zero_mul]
    · intro h
      rcases Int.mul_eq_zero.1 h with h | h
      · exact h
      · omega
  have l : (T < 0) ↔ (sgn s v + sgn t u < 0) := by
    rw [← tot]
    constructor
    · intro h; exact Int.mul_neg_of_neg_of_pos h hp
    · intro h
      apply Int.not_le.1
      intro k
      have := Int.mul_nonneg k (Int.le_of_lt hp)
      omega
  have e5 : (if T = 0 then s && t else decide (T < 0)) = (if sgn s v + sgn t u = 0 then s && t else decide (sgn s v + sgn t u < 0)) := by
    by_cases c0 : T = 0
    · rw [if_pos c0, if_pos (z.1 c0)]
    · rw [if_neg c0, if_neg (fun k => c0 (z.2 k))]
      exact decide_eq_decide.2 l
  rw [e5]
  rw [write_fin _ hc ?_]
  refine units_at 1074 (Nat.le_refl _) (by omega) ?_
  rw [← tot, Int.natAbs_mul, Int.natAbs_natCast, Nat.sub_self, pw_zero, Nat.mul_one, Int.add_comm]
  rfl

/-- How two finite words stand to each other. -/
theorem order_fin (s t : Bool) {a v b u : Nat} (ha : Is a v) (hb : Is b u) : double.order (double.word s a) (double.word t b) = some (compare (sgn s v) (sgn t u)) := by
  obtain ⟨m, i, e1, h1, h2, _⟩ := read_fin s ha
  obtain ⟨n, j, e3, h3, h4, _⟩ := read_fin t hb
  unfold Format.order
  rw [e1, e3]
  simp only [Datum.order, signed_eq]
  have p1 : (i + 1074).toNat = (i - min i j).toNat + (min i j + 1074).toNat := by omega
  have p2 : (j + 1074).toNat = (j - min i j).toNat + (min i j + 1074).toNat := by omega
  have q1 : sgn s v = sgn s (m * pw (i - min i j).toNat) * ((pw (min i j + 1074).toNat : Nat) : Int) := by
    rw [← sgn_mul, Nat.mul_assoc, ← pw_add, ← p1, h1]
  have q2 : sgn t u = sgn t (n * pw (j - min i j).toNat) * ((pw (min i j + 1074).toNat : Nat) : Int) := by
    rw [← sgn_mul, Nat.mul_assoc, ← pw_add, ← p2, h3]
  have hp : (0 : Int) < ((pw (min i j + 1074).toNat : Nat) : Int) := Int.natCast_pos.2 (pw_pos _)
  rw [q1, q2]
  generalize sgn s (m * pw (i - min i j).toNat) = x
  generalize sgn t (n * pw (j - min i j).toNat) = y
  congr 1
  rw [Int.compare_eq_ite_lt, Int.compare_eq_ite_lt]
  by_cases c1 : x < y
  · rw [if_pos c1, if_pos (Int.mul_lt_mul_of_pos_right c1 hp)]
  · rw [if_neg c1, if_neg (fun k => c1 (Int.lt_of_mul_lt_mul_right k (Int.le_of_lt hp)))]
    by_cases c2 : y < x
    · rw [if_pos c2, if_pos (Int.mul_lt_mul_of_pos_right c2 hp)]
    · rw [if_neg c2, if_neg (fun k => c2 (Int.lt_of_mul_lt_mul_right k (Int.le_of_lt hp)))]

/-- Is it no number? -/
def isNan (w : Nat) : Bool := decide (infR < w % 2 ^ 63)

theorem word_of (w : Nat) (hw : w < 2 ^ 64) : ∃ s r, w = double.word s r ∧ r < 2 ^ 63 := by
  by_cases h : w < 2 ^ 63
  · exact ⟨false, w, rfl, h⟩
  · exact ⟨true, w - 2 ^ 63, by unfold Format.word; rw [sign_eq]; simp; omega, by omega⟩

theorem word_mod (s : Bool) {r : Nat} (h : r < 2 ^ 63) : double.word s r % 2 ^ 63 = r ∧ double.word s r / 2 ^ 63 = (if s then 1 else 0) ∧ double.word s r < 2 ^ 64 := by
  unfold Format.word; rw [sign_eq]; cases s <;> simp <;> omega

theorem isNan_word (s : Bool) {r : Nat} (h : r < 2 ^ 63) : isNan (double.word s r) = decide (infR < r) := by
  unfold isNan; rw [(word_mod s h).1]

theorem read_word (s : Bool) {r : Nat} (h : r < 2 ^ 63) : double.read (double.word s r) =
    if r < 2 ^ 52 then .number s r (-1074) else if r < infR then .number s (2 ^ 52 + r % 2 ^ 52) (-1074 + (r / 2 ^ 52 - 1 : Nat)) else if r = infR then .infinity s else .nan s (r - infR) := by
  obtain ⟨e2, e1, _⟩ := word_mod s h
  have e3 : ((double.word s r / 2 ^ 63 % 2) == 1) = s := by rw [e1]; cases s <;> rfl
  unfold Format.read
  simp only [sign_eq, binade_eq, infR_eq, least_eq, e2, e3]

theorem read_inf (s : Bool) : double.read (double.word s infR) = .infinity s := by
  rw [read_word s (by decide), if_neg (by decide), if_neg (by omega), if_pos rfl]

theorem read_nan (s : Bool) {r : Nat} (h : infR < r) (h2 : r < 2 ^ 63) : double.read (double.word s r) = .nan s (r - infR) := by
  have : 2 ^ 52 ≤ infR := by decide
  rw [read_word s h2, if_neg (by omega), if_neg (by omega), if_neg (by omega)]

theorem nan_read {w : Nat} (hw : w < 2 ^ 64) (h : isNan w = true) : ∃ s f, double.read w = .nan s f := by
  obtain ⟨s, r, rfl, hr⟩ := word_of w hw
  rw [isNan_word s hr, decide_eq_true_eq] at h
  exact ⟨s, _, read_nan s h hr⟩

/-- A word that is a number is finite or an infinity. -/
theorem num_cases {w : Nat} (hw : w < 2 ^ 64) (h : isNan w = false) : ∃ s r, w = double.word s r ∧ (r = infR ∨ r < infR) := by
  obtain ⟨s, r, rfl, hr⟩ := word_of w hw
  rw [isNan_word s hr, decide_eq_false_iff_not] at h
  exact ⟨s, r, rfl, by omega⟩

theorem is_val {r : Nat} (h : r < infR) : Is r (val r) := ⟨h, rfl⟩

/-- Every finite rung's number has at most 53 digits. -/
theorem val_form {r : Nat} (h : r < infR) : ∃ s j, val r = s * pw j ∧ s < 2 ^ 53 ∧ j ≤ 2045 ∧ ((j = 0 ∧ s = r ∧ r < 2 ^ 52) ∨ (2 ^ 52 ≤ s ∧ r = (j + 1) * 2 ^ 52 + (s - 2 ^ 52))) := by
  by_cases hn : r < 2 ^ 52
  · exact ⟨r, 0, by unfold val; rw [if_pos hn]; exact (Nat.mul_one r).symm, by omega, by omega, .inl ⟨rfl, rfl, hn⟩⟩
  · refine ⟨2 ^ 52 + r % 2 ^ 52, r / 2 ^ 52 - 1, by unfold val; rw [if_neg hn], by omega, ?_, .inr ⟨by omega, ?_⟩⟩
    · unfold infR at h; omega
    · have h1 : 1 ≤ r / 2 ^ 52 := by omega
      omega

theorem val_inj {a b : Nat} (ha : a < infR) (hb : b < infR) (h : val a = val b) : a = b := by
  have h1 := nearest_val false (mag := val a) (place := -1074) ha (by unfold Units; simp)
  have h2 := nearest_val false (mag := val a) (place := -1074) hb (by unfold Units; simp [h])
  rw [h1] at h2
  exact h2

theorem is_inj {a b v : Nat} (ha : Is a v) (hb : Is b v) : a = b := val_inj ha.1 hb.1 (ha.2.trans hb.2.symm)

theorem order_nan_left {x y : Nat} (hx : x < 2 ^ 64) (h : isNan x = true) : double.order x y = none := by
  obtain ⟨s, f, e⟩ := nan_read hx h
  unfold Format.order; rw [e]; cases double.read y <;> rfl

theorem order_nan_right {x y : Nat} (hy : y < 2 ^ 64) (h : isNan y = true) : double.order x y = none := by
  obtain ⟨s, f, e⟩ := nan_read hy h
  unfold Format.order; rw [e]; cases double.read x <;> rfl

theorem order_self {x : Nat} (hx : x < 2 ^ 64) (h : isNan x = false) : double.order x x = some .eq := by
  obtain ⟨s, r, rfl, rfl | hr⟩ := num_cases hx h
  · unfold Format.order; rw [read_inf]; simp [Datum.order]
  · rw [order_fin s s (is_val hr) (is_val hr)]; simp

theorem order_inf_fin (s t : Bool) {b u : Nat} (hb : Is b u) : double.order (double.word s infR) (double.word t b) = some (if s then .lt else .gt) := by
  obtain ⟨n, j, e, _⟩ := read_fin t hb
  unfold Format.order; rw [e, read_inf]; rfl

theorem order_fin_inf (s t : Bool) {b u : Nat} (hb : Is b u) : double.order (double.word s b) (double.word t infR) = some (if t then .gt else .lt) := by
  obtain ⟨n, j, e, _⟩ := read_fin s hb
  unfold Format.order; rw [e, read_inf]; rfl

theorem sgn_false (v : Nat) : sgn false v = v := rfl
theorem sgn_true (v : Nat) : sgn true v = -(v : Int) := rfl
theorem word_false (a : Nat) : double.word false a = a := rfl
theorem word_true (a : Nat) : double.word true a = 2 ^ 63 + a := rfl

theorem is_zero : Is 0 0 := ⟨by decide, by unfold val; rw [if_pos (by decide)]⟩
theorem is_one : Is 4607182418800017408 (pw 1074) := by
  refine ⟨by decide, ?_⟩
  unfold val; rw [if_neg (by decide)]
  rw [show 4607182418800017408 / 2 ^ 52 - 1 = 1022 from by decide, show 2 ^ 52 + 4607182418800017408 % 2 ^ 52 = 2 ^ 52 from by decide, ← pw52, ← pw_add]
theorem is_two : Is 4611686018427387904 (pw 1075) := by
  refine ⟨by decide, ?_⟩
  unfold val; rw [if_neg (by decide)]
  rw [show 4611686018427387904 / 2 ^ 52 - 1 = 1023 from by decide, show 2 ^ 52 + 4611686018427387904 % 2 ^ 52 = 2 ^ 52 from by decide, ← pw52, ← pw_add]
theorem is_p52 : Is 4841369599423283200 (pw 1126) := by
  refine ⟨by decide, ?_⟩
  unfold val; rw [if_neg (by decide)]
  rw [show 4841369599423283200 / 2 ^ 52 - 1 = 1074 from by decide, show 2 ^ 52 + 4841369599423283200 % 2 ^ 52 = 2 ^ 52 from by decide, ← pw52, ← pw_add]
theorem read_two : double.read 4611686018427387904 = .number false (2 ^ 52) ((1 : Nat) - 52) := by decide
theorem read_p52 : double.read 4841369599423283200 = .number false (2 ^ 52) ((52 : Nat) - 52) := by decide

/-- Halved, doubled: exact. -/
theorem half_is {a s t : Nat} (ha : Is a (s * pw (t + 1))) (hs : s < 2 ^ 53) (ht : t ≤ 2045) : ∃ b, floatBits .quo .f64 a 4611686018427387904 = some b ∧ Is b (s * pw t) := by
  obtain ⟨b, hb⟩ := is_of hs ht
  exact ⟨b, div_fin false ha read_two hb (by rw [pw_succ, Nat.mul_assoc]; rfl), hb⟩

theorem twice_is {a s t : Nat} (ha : Is a (s * pw t)) (hs : s < 2 ^ 53) (ht : t + 1 ≤ 2045) : ∃ b, floatBits .mul .f64 a 4611686018427387904 = some b ∧ Is b (s * pw (t + 1)) := by
  obtain ⟨b, hb⟩ := is_of hs ht
  refine ⟨b, mul_fin false false ha is_two hb ?_, hb⟩
  rw [show (1075 : Nat) = 1 + 1074 from rfl, pw_add 1, ← Nat.mul_assoc, pw_succ t, show pw 1 = 2 from rfl, Nat.mul_assoc s]

/-- What an integer's word is. -/
theorem ofInt_is {n : Int} {s j a : Nat} (h : n.natAbs = s * pw j) (ha : Is a (s * pw (j + 1074))) : floatOfInt .f64 n = double.word (decide (n < 0)) a := by
  unfold floatOfInt FloatKind.nearest FloatKind.encode
  refine write_fin _ ha ?_
  unfold Units
  rw [h, pw_add, ← Nat.mul_assoc, show (0 + 1074 : Int).toNat = 1074 from rfl, show (-1074 - 0 : Int).toNat = 0 from rfl, pw_zero, Nat.mul_one]

/-- What the tape answers where an operation has no number to give is no number. -/
theorem nan_cut (x y m : Nat) : isNan ((Question.nanBits .f64 x y).cut m) = true ∧ (Question.nanBits .f64 x y).cut m < 2 ^ 64 := by
  have h0 : (m / 2) % (2 ^ 52 - 1) < 2 ^ 52 - 1 := Nat.mod_lt _ (by decide)
  have e : (Question.nanBits .f64 x y).cut m = (m % 2) * 2 ^ 63 + 0x7ff0000000000000 + 1 + (m / 2) % (2 ^ 52 - 1) := rfl
  unfold isNan infR
  rw [e]
  generalize (m / 2) % (2 ^ 52 - 1) = q at *
  constructor
  · rw [decide_eq_true_eq]; omega
  · omega

/-- The parts of a word of 64 bits: sign, exponent field, fraction field. -/
theorem parts (N : Nat) (h : N < 2 ^ 64) : ∃ (s : Bool) (E f : Nat), E < 2048 ∧ f < 2 ^ 52 ∧ N = (if s then 2 ^ 63 else 0) + E * 2 ^ 52 + f ∧ N / 2 ^ 52 % 2048 = E ∧ N % 2 ^ 52 = f ∧ N / 2 ^ 63 = (if s then 1 else 0) := by
  by_cases c : N < 2 ^ 63
  · refine ⟨false, N / 2 ^ 52, N % 2 ^ 52, by omega, by omega, ?_, by omega, rfl, ?_⟩ <;> simp <;> omega
  · refine ⟨true, N / 2 ^ 52 - 2048, N % 2 ^ 52, by omega, by omega, ?_, by omega, rfl, ?_⟩ <;> simp <;> omega

theorem word_bool (s : Bool) (r : Nat) : double.word s r = (if s then 2 ^ 63 else 0) + r := by
  cases s <;> simp [Format.word, sign_eq]

theorem neg_word (r : Nat) (h : r < 2 ^ 63) : Op.negFloat .f64 r = 2 ^ 63 + r := by
  have e : Op.negFloat .f64 r = r ^^^ 2 ^ 63 := rfl
  rw [e]
  apply Nat.eq_of_testBit_eq
  intro i
  rw [Nat.testBit_xor, Nat.testBit_two_pow]
  by_cases c : i = 63
  · subst c
    rw [Nat.testBit_two_pow_add_eq]
    simp
  · by_cases d : i < 63
    · have e : decide (63 = i) = false := decide_eq_false (by omega)
      rw [Nat.testBit_two_pow_add_gt d, e, Bool.xor_false]
    · have hr : r.testBit i = false := Nat.testBit_lt_two_pow (Nat.lt_of_lt_of_le h (Nat.pow_le_pow_right (by decide) (by omega)))
      have hr2 : (2 ^ 63 + r).testBit i = false := Nat.testBit_lt_two_pow (Nat.lt_of_lt_of_le (show 2 ^ 63 + r < 2 ^ 64 by omega) (Nat.pow_le_pow_right (by decide) (by omega)))
      have e : decide (63 = i) = false := decide_eq_false (by omega)
      rw [hr, hr2, e, Bool.xor_false]

theorem neg_neg_word (r : Nat) (h : r < 2 ^ 63) : Op.negFloat .f64 (2 ^ 63 + r) = r := by
  rw [← neg_word r h]
  have e : ∀ x, Op.negFloat .f64 x = x ^^^ 2 ^ 63 := fun _ => rfl
  rw [e, e, Nat.xor_assoc, Nat.xor_self, Nat.xor_zero]

theorem neg_of_word (s : Bool) (r : Nat) (h : r < 2 ^ 63) : Op.negFloat .f64 (double.word s r) = double.word (!s) r := by
  cases s
  · exact neg_word r h
  · exact neg_neg_word r h

theorem cut_zero (neg : Bool) (n drop : Nat) : Toward.zero.cut neg n drop = n / pw drop := by
  unfold Toward.cut
  simp only [one_shl, Bool.toNat_false, Nat.add_zero]
  by_cases h : drop ≤ n.log2 + 2
  · rw [Nat.min_eq_left h]
  · rw [Nat.min_eq_right (by omega)]
    have h1 : n < pw (n.log2 + 1) := lt_log2'
    have h2 : pw (n.log2 + 2) = pw (n.log2 + 1) * 2 := pw_succ _
    have h3 : pw drop = pw (n.log2 + 2) * pw (drop - (n.log2 + 2)) := by rw [← pw_add]; exact congrArg pw (by omega)
    have h4 := pw_pos (drop - (n.log2 + 2))
    have h5 : pw (n.log2 + 2) ≤ pw drop := by rw [h3]; exact Nat.le_mul_of_pos_right _ h4
    rw [Nat.div_eq_of_lt (by omega), Nat.div_eq_of_lt (by omega)]

/-- A finite float made whole towards zero. -/
theorem toInt_fin (sg : Bool) {a v : Nat} (h : Is a v) : (Ieee.double.read (Ieee.double.word sg a)).toInt .zero = some (sgn sg (v / pw 1074)) := by
  obtain ⟨m, p, e, h1, h2, _⟩ := read_fin sg h
  rw [e]
  simp only [Datum.toInt, Datum.integral, signed_eq, cut_zero, shl_eq, pw_zero, Nat.mul_one]
  have hv : m * pw p.toNat / pw (-p).toNat = v / pw 1074 := by
    rw [← h1]
    by_cases c : 0 ≤ p
    · rw [show (-p).toNat = 0 from by omega, pw_zero, Nat.div_one, show (p + 1074).toNat = p.toNat + 1074 from by omega, pw_add, ← Nat.mul_assoc, Nat.mul_div_cancel _ (pw_pos _)]
    · rw [show p.toNat = 0 from by omega, pw_zero, Nat.mul_one]
      have e2 : pw 1074 = pw (-p).toNat * pw (p + 1074).toNat := by rw [← pw_add]; exact congrArg pw (by omega)
      rw [e2, Nat.mul_div_mul_right _ _ (pw_pos _)]
  rw [hv]

theorem sub_fin (s t : Bool) {a v b u c : Nat} (ha : Is a v) (hb : Is b u) (hc : Is c (sgn s v + sgn (!t) u).natAbs) :
    Ieee.double.sub (Ieee.double.word s a) (Ieee.double.word t b) = some (Ieee.double.word (if sgn s v + sgn (!t) u = 0 then s && !t else decide (sgn s v + sgn (!t) u < 0)) c) := by
  rw [← sum_fin s (!t) ha hb hc]
  unfold Format.sub Format.add
  congr 2
  obtain ⟨m, p, e, h1, h2, _⟩ := read_fin t hb
  have e2 := read_word t (is_lt hb)
  have e3 := read_word (!t) (is_lt hb)
  rw [e2, e3]
  have hlt := hb.1
  by_cases c1 : b < 2 ^ 52
  · rw [if_pos c1, if_pos c1]; rfl
  · rw [if_neg c1, if_neg c1, if_pos hlt, if_pos hlt]; rfl

/-- Where a finite positive float stands to a power of two, by its digits and their place. -/
theorem cmp_lt {A s t B u : Nat} (hA : Is A (s * pw t)) (hB : Is B (pw u)) (h : s * pw t < pw u) : Ieee.double.order A B = some .lt := by
  have := order_fin false false hA hB
  rw [sgn_false, sgn_false, Int.compare_eq_ite_lt, if_pos (by omega)] at this
  exact this

theorem cmp_ge {A s t B u : Nat} (hA : Is A (s * pw t)) (hB : Is B (pw u)) (h : pw u ≤ s * pw t) : Ieee.double.order A B = some .gt ∨ Ieee.double.order A B = some .eq := by
  have := order_fin false false hA hB
  rw [sgn_false, sgn_false, Int.compare_eq_ite_lt, if_neg (by omega)] at this
  by_cases c : pw u < s * pw t
  · rw [if_pos (by omega)] at this; exact .inl this
  · rw [if_neg (by omega)] at this; exact .inr this

theorem pw_le {a b : Nat} (h : a ≤ b) : pw a ≤ pw b := Nat.pow_le_pow_right (by decide) h

/-- s * 2 ^ t, s of 53 digits, is at least 2 ^ (52 + k) just where t is at least k. -/
theorem top_ge {s t k : Nat} (hs : 2 ^ 52 ≤ s) (h : k ≤ t) : pw (52 + k) ≤ s * pw t := by
  rw [pw_add, pw52]
  exact Nat.mul_le_mul hs (pw_le h)
theorem top_lt {s t k : Nat} (hs : s < 2 ^ 53) (h : t < k) : s * pw t < pw (52 + k) := by
  have h1 : pw (52 + k) = pw (53 + t) * pw (k - 1 - t) := by rw [← pw_add]; exact congrArg pw (by omega)
  have h2 := pw_pos (k - 1 - t)
  have h3 : s * pw t < pw (53 + t) := by rw [pw_add, pw53]; exact (Nat.mul_lt_mul_right (pw_pos t)).2 hs
  have h4 : pw (53 + t) ≤ pw (52 + k) := by rw [h1]; exact Nat.le_mul_of_pos_right _ h2
  omega
theorem low_lt {s t k : Nat} (hs : s < 2 ^ 52) (h : t ≤ k) : s * pw t < pw (52 + k) := by
  have h3 : s * pw t < pw (52 + t) := by rw [pw_add, pw52]; exact (Nat.mul_lt_mul_right (pw_pos t)).2 hs
  have h4 : pw (52 + t) ≤ pw (52 + k) := pw_le (by omega)
  omega

theorem or_add (a b i : Nat) (hb : b < 2 ^ i) : 2 ^ i * a ||| b = 2 ^ i * a + b := (Nat.two_pow_add_eq_or_of_lt hb a).symm

end Go.Proofs.YtkkodbbgdndhmaaDoor.Fl
