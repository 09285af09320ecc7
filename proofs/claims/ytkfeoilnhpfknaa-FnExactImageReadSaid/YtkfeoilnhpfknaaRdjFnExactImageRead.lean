/- Plain law: what readers read and what is listed fit together: numbers. -/
import Derived.Test.YtkfeoilnhpfknaaRdiFnExactImageRead
import Derived.Test.YtkfeoilnhpfknaaAid
namespace Go.Proofs.Ytkfeoilnhpfknaa.ImFnExactImageRead
set_option linter.unusedVariables false
open Go.RowKit Go.Proofs.Ytkfeoilnhpfknaa.QFnExactImageRead Go.Proofs.YtkfeoilnhpfknaaW.PrintWords Go.Proofs.YtkfeoilnhpfknaaW.PrintLast Go.Proofs.Ytkfeoilnhpfknaa.Aid

/-! ### Bits that lie apart -/
theorem or_nat (x y : Int) (a b i : Nat) (ha : a < 2 ^ i) (hx : x % 18446744073709551616 = a) (hy : y % 18446744073709551616 = (2 ^ i * b : Nat)) :
    (BitVec.ofInt 64 x ||| BitVec.ofInt 64 y).toNat = 2 ^ i * b + a := by
  have h1 : (BitVec.ofInt 64 x).toNat = a := by
    rw [BitVec.toNat_ofInt]
    show (x % 18446744073709551616).toNat = a
    rw [hx]; rfl
  have h2 : (BitVec.ofInt 64 y).toNat = 2 ^ i * b := by
    rw [BitVec.toNat_ofInt]
    show (y % 18446744073709551616).toNat = _
    rw [hy]; rfl
  rw [BitVec.toNat_or, h1, h2, Nat.or_comm, Nat.two_pow_add_eq_or_of_lt ha]
theorem or_i64 (x y : Int) (a b i : Nat) (ha : a < 2 ^ i) (hx : x % 18446744073709551616 = a) (hy : y % 18446744073709551616 = (2 ^ i * b : Nat)) :
    bits .or .i64 x y = wrap64 ((2 ^ i * b + a : Nat) : Int) := by
  show IntKind.i64.wrap ((BitVec.ofInt 64 x ||| BitVec.ofInt 64 y).toNat : Int) = _
  rw [or_nat x y a b i ha hx hy]
  exact i64_w _
theorem or_u64 (x y : Int) (a b i : Nat) (ha : a < 2 ^ i) (hx : x % 18446744073709551616 = a) (hy : y % 18446744073709551616 = (2 ^ i * b : Nat)) (h : 2 ^ i * b + a < 18446744073709551616) :
    bits .or .u64 x y = ((2 ^ i * b + a : Nat) : Int) := by
  show IntKind.u64.wrap ((BitVec.ofInt 64 x ||| BitVec.ofInt 64 y).toNat : Int) = _
  rw [or_nat x y a b i ha hx hy, IntKind.wrap_u64]
  omega
theorem wrap_mod (x : Int) : wrap64 x % 18446744073709551616 = x % 18446744073709551616 := by unfold wrap64; omega

/-! ### Numbers, low byte first -/
def vv (l : List Int) : Nat → Nat
  | 0 => 0
  | i + 1 => 2 ^ (8 * i) * (rd l i).toNat + vv l i
theorem vv_lt {l : List Int} (h : Byt l) (i : Nat) : vv l i < 2 ^ (8 * i) := by
  induction i with
  | zero => exact (by decide : 0 < 2 ^ (8 * 0))
  | succ i ih =>
    have hr := h.rd (i : Int)
    have e : 2 ^ (8 * (i + 1)) = 2 ^ (8 * i) * 256 := by rw [Nat.mul_add, Nat.pow_add]
    have h2 : 2 ^ (8 * i) * (rd l i).toNat ≤ 2 ^ (8 * i) * 255 := Nat.mul_le_mul_left _ (by omega)
    have h3 : 2 ^ (8 * i) * 255 + 2 ^ (8 * i) = 2 ^ (8 * i) * 256 := by omega
    rw [e, vv]
    omega
theorem pow_le (i : Nat) (h : i ≤ 7) : 2 ^ (8 * i) ≤ 72057594037927936 := by
  have : 2 ^ (8 * i) ≤ 2 ^ (8 * 7) := Nat.pow_le_pow_right (by decide) (by omega)
  simpa using this
theorem foldN_is {l : List Int} (h : Byt l) (i : Nat) (hi : i ≤ 8) : foldN l i = wrap64 (vv l i) := by
  induction i with
  | zero => show (0 : Int) = wrap64 ((0 : Nat) : Int); unfold wrap64; omega
  | succ i ih =>
    have hr := h.rd (i : Int)
    have hp := pow_le i (by omega)
    have hv := vv_lt h i
    have h2 : 2 ^ (8 * i) * (rd l i).toNat ≤ 2 ^ (8 * i) * 255 := Nat.mul_le_mul_left _ (by omega)
    rw [foldN, ih (by omega), vv]
    refine or_i64 _ _ (vv l i) (rd l i).toNat (8 * i) hv ?_ ?_
    · rw [wrap_mod]
      omega
    · have e1 : wrap64 (rd l i) = rd l i := by unfold wrap64; omega
      have e2 : rd l i * 2 ^ (8 * i) = ((2 ^ (8 * i) * (rd l i).toNat : Nat) : Int) := by
        rw [Int.natCast_mul, Int.natCast_pow, Int.mul_comm, Int.toNat_of_nonneg hr.1]
        rfl
      rw [e1, e2, wrap_mod]
      omega
theorem numV_1 {l : List Int} (h : Byt l) (hl : 1 ≤ l.length) : numV 1 l = rd l 0 := by
  have h0 := h.rd 0
  unfold numV
  rw [if_neg (by omega), foldN_is h 1 (by decide)]
  have e : vv l 1 = (rd l 0).toNat := by show 2 ^ (8 * 0) * (rd l 0).toNat + 0 = _; simp
  rw [e]
  unfold wrap64
  omega
theorem numV_2 {l : List Int} (h : Byt l) (hl : 2 ≤ l.length) : numV 2 l = two l := by
  have h0 := h.rd 0
  have h1 := h.rd 1
  unfold numV
  rw [if_neg (by omega), foldN_is h 2 (by decide)]
  have e : vv l 2 = 256 * (rd l 1).toNat + (rd l 0).toNat := by
    show 2 ^ (8 * 1) * (rd l 1).toNat + (2 ^ (8 * 0) * (rd l 0).toNat + 0) = _
    simp
  rw [e]
  unfold two wrap64
  omega
theorem vv_8 (l : List Int) : vv l 8 = 72057594037927936 * (rd l 7).toNat + (281474976710656 * (rd l 6).toNat + (1099511627776 * (rd l 5).toNat + (4294967296 * (rd l 4).toNat + (16777216 * (rd l 3).toNat + (65536 * (rd l 2).toNat + (256 * (rd l 1).toNat + (rd l 0).toNat)))))) := by
  show 2 ^ (8 * 7) * (rd l 7).toNat + (2 ^ (8 * 6) * (rd l 6).toNat + (2 ^ (8 * 5) * (rd l 5).toNat + (2 ^ (8 * 4) * (rd l 4).toNat + (2 ^ (8 * 3) * (rd l 3).toNat + (2 ^ (8 * 2) * (rd l 2).toNat + (2 ^ (8 * 1) * (rd l 1).toNat + (2 ^ (8 * 0) * (rd l 0).toNat + 0))))))) = _
  simp
theorem numV_8 {l : List Int} (h : Byt l) (hl : 8 ≤ l.length) : numV 8 l = wrap64 (vv l 8) := by
  unfold numV
  rw [if_neg (by omega), foldN_is h 8 (by decide)]
/-! ### .. and high byte first -/
def uu (l : List Int) : Nat → Nat
  | 0 => 0
  | i + 1 => 2 ^ 8 * uu l i + (rd l (11 - (i : Int))).toNat
theorem uu_lt {l : List Int} (h : Byt l) (i : Nat) : uu l i < 2 ^ (8 * i) := by
  induction i with
  | zero => exact (by decide : 0 < 2 ^ (8 * 0))
  | succ i ih =>
    have hr := h.rd (11 - (i : Int))
    have e : 2 ^ (8 * (i + 1)) = 2 ^ (8 * i) * 256 := by rw [Nat.mul_add, Nat.pow_add]
    rw [e, uu]
    omega
theorem upTo_is {l : List Int} (h : Byt l) (i : Nat) (hi : i ≤ 8) : upTo l i = (uu l i : Int) := by
  induction i with
  | zero => rfl
  | succ i ih =>
    have hr := h.rd (11 - (i : Int))
    have hp := pow_le i (by omega)
    have hv := uu_lt h i
    have e1 : bits .or .u64 (IntKind.u64.wrap (upTo l i * 256)) (IntKind.u64.wrap (rd l (11 - (i : Int)))) = bits .or .u64 (IntKind.u64.wrap (rd l (11 - (i : Int)))) (IntKind.u64.wrap (upTo l i * 256)) := by
      show IntKind.u64.wrap ((BitVec.ofInt 64 _ ||| BitVec.ofInt 64 _).toNat : Int) = IntKind.u64.wrap ((BitVec.ofInt 64 _ ||| BitVec.ofInt 64 _).toNat : Int)
      rw [BitVec.or_comm]
    rw [upTo, e1, ih (by omega), uu]
    refine or_u64 _ _ (rd l (11 - (i : Int))).toNat (uu l i) 8 (by omega) ?_ ?_ (by omega)
    · rw [IntKind.wrap_u64]
      omega
    · rw [IntKind.wrap_u64]
      omega
theorem rd_drop (l : List Int) (k i : Nat) : rd (l.drop k) (i : Int) = rd l ((k + i : Nat) : Int) := by
  unfold Go.Proofs.YtkfeoilnhpfknaaW.PrintWords.rd
  rw [Int.toNat_natCast, Int.toNat_natCast, List.getD_eq_getElem?_getD, List.getD_eq_getElem?_getD, List.getElem?_drop]
theorem upTo_8 {l : List Int} (h : Byt l) : upTo l 8 = (vv (l.drop 4) 8 : Int) := by
  rw [upTo_is h 8 (by decide), vv_8]
  have e : uu l 8 = 2 ^ 8 * (2 ^ 8 * (2 ^ 8 * (2 ^ 8 * (2 ^ 8 * (2 ^ 8 * (2 ^ 8 * (2 ^ 8 * 0 + (rd l 11).toNat) + (rd l 10).toNat) + (rd l 9).toNat) + (rd l 8).toNat) + (rd l 7).toNat) + (rd l 6).toNat) + (rd l 5).toNat) + (rd l 4).toNat := rfl
  have r0 : rd (l.drop 4) 0 = rd l 4 := rd_drop l 4 0
  have r1 : rd (l.drop 4) 1 = rd l 5 := rd_drop l 4 1
  have r2 : rd (l.drop 4) 2 = rd l 6 := rd_drop l 4 2
  have r3 : rd (l.drop 4) 3 = rd l 7 := rd_drop l 4 3
  have r4 : rd (l.drop 4) 4 = rd l 8 := rd_drop l 4 4
  have r5 : rd (l.drop 4) 5 = rd l 9 := rd_drop l 4 5
  have r6 : rd (l.drop 4) 6 = rd l 10 := rd_drop l 4 6
  have r7 : rd (l.drop 4) 7 = rd l 11 := rd_drop l 4 7
  rw [r0, r1, r2, r3, r4, r5, r6, r7, e]
  omega
/-! ### The bytes of a number -/
theorem low_2 (n : Int) : lowB n 2 = [n % 256, n / 256 % 256] := rfl
theorem low_8 (n : Int) : lowB n 8 = [sh n 0 % 256, sh n 1 % 256, sh n 2 % 256, sh n 3 % 256, sh n 4 % 256, sh n 5 % 256, sh n 6 % 256, sh n 7 % 256] := rfl
theorem digs (n s1 s2 s3 s4 s5 s6 s7 : Int) (e1 : s1 = n / 256) (e2 : s2 = s1 / 256) (e3 : s3 = s2 / 256) (e4 : s4 = s3 / 256) (e5 : s5 = s4 / 256) (e6 : s6 = s5 / 256) (e7 : s7 = s6 / 256) :
    n % 18446744073709551616 = 72057594037927936 * (s7 % 256) + (281474976710656 * (s6 % 256) + (1099511627776 * (s5 % 256) + (4294967296 * (s4 % 256) + (16777216 * (s3 % 256) + (65536 * (s2 % 256) + (256 * (s1 % 256) + n % 256)))))) := by
  omega
theorem digs2 (r0 r1 r2 r3 r4 r5 r6 r7 q0 q1 q2 q3 q4 q5 q6 q7 : Int) (h0 : 0 ≤ r0 ∧ r0 ≤ 255) (h1 : 0 ≤ r1 ∧ r1 ≤ 255) (h2 : 0 ≤ r2 ∧ r2 ≤ 255) (h3 : 0 ≤ r3 ∧ r3 ≤ 255) (h4 : 0 ≤ r4 ∧ r4 ≤ 255) (h5 : 0 ≤ r5 ∧ r5 ≤ 255) (h6 : 0 ≤ r6 ∧ r6 ≤ 255) (h7 : 0 ≤ r7 ∧ r7 ≤ 255)
    (k0 : 0 ≤ q0 ∧ q0 ≤ 255) (k1 : 0 ≤ q1 ∧ q1 ≤ 255) (k2 : 0 ≤ q2 ∧ q2 ≤ 255) (k3 : 0 ≤ q3 ∧ q3 ≤ 255) (k4 : 0 ≤ q4 ∧ q4 ≤ 255) (k5 : 0 ≤ q5 ∧ q5 ≤ 255) (k6 : 0 ≤ q6 ∧ q6 ≤ 255) (k7 : 0 ≤ q7 ∧ q7 ≤ 255)
    (h : 72057594037927936 * r7 + (281474976710656 * r6 + (1099511627776 * r5 + (4294967296 * r4 + (16777216 * r3 + (65536 * r2 + (256 * r1 + r0)))))) = 72057594037927936 * q7 + (281474976710656 * q6 + (1099511627776 * q5 + (4294967296 * q4 + (16777216 * q3 + (65536 * q2 + (256 * q1 + q0))))))) :
    r0 = q0 ∧ r1 = q1 ∧ r2 = q2 ∧ r3 = q3 ∧ r4 = q4 ∧ r5 = q5 ∧ r6 = q6 ∧ r7 = q7 := by
  have e7 : r7 = q7 := by omega
  subst e7
  have e6 : r6 = q6 := by omega
  subst e6
  have e5 : r5 = q5 := by omega
  subst e5
  have e4 : r4 = q4 := by omega
  subst e4
  have e3 : r3 = q3 := by omega
  subst e3
  have e2 : r2 = q2 := by omega
  subst e2
  have e1 : r1 = q1 := by omega
  subst e1
  exact ⟨by omega, rfl, rfl, rfl, rfl, rfl, rfl, rfl⟩
theorem sh_8 (n : Int) : n % 18446744073709551616 = 72057594037927936 * (sh n 7 % 256) + (281474976710656 * (sh n 6 % 256) + (1099511627776 * (sh n 5 % 256) + (4294967296 * (sh n 4 % 256) + (16777216 * (sh n 3 % 256) + (65536 * (sh n 2 % 256) + (256 * (sh n 1 % 256) + sh n 0 % 256)))))) :=
  digs n (sh n 1) (sh n 2) (sh n 3) (sh n 4) (sh n 5) (sh n 6) (sh n 7) rfl rfl rfl rfl rfl rfl rfl
theorem mod_b (x : Int) : 0 ≤ x % 256 ∧ x % 256 ≤ 255 := by omega
theorem cast8 (r0 r1 r2 r3 r4 r5 r6 r7 : Int) (h0 : 0 ≤ r0) (h1 : 0 ≤ r1) (h2 : 0 ≤ r2) (h3 : 0 ≤ r3) (h4 : 0 ≤ r4) (h5 : 0 ≤ r5) (h6 : 0 ≤ r6) (h7 : 0 ≤ r7) :
    ((72057594037927936 * r7.toNat + (281474976710656 * r6.toNat + (1099511627776 * r5.toNat + (4294967296 * r4.toNat + (16777216 * r3.toNat + (65536 * r2.toNat + (256 * r1.toNat + r0.toNat)))))) : Nat) : Int) = 72057594037927936 * r7 + (281474976710656 * r6 + (1099511627776 * r5 + (4294967296 * r4 + (16777216 * r3 + (65536 * r2 + (256 * r1 + r0)))))) := by
  omega
theorem vv_8i {l : List Int} (h : Byt l) : (vv l 8 : Int) = 72057594037927936 * rd l 7 + (281474976710656 * rd l 6 + (1099511627776 * rd l 5 + (4294967296 * rd l 4 + (16777216 * rd l 3 + (65536 * rd l 2 + (256 * rd l 1 + rd l 0)))))) := by
  rw [vv_8]
  exact cast8 _ _ _ _ _ _ _ _ (h.rd 0).1 (h.rd 1).1 (h.rd 2).1 (h.rd 3).1 (h.rd 4).1 (h.rd 5).1 (h.rd 6).1 (h.rd 7).1
theorem wrap_of (V n : Int) (hV : V = n % 18446744073709551616) (h : -9223372036854775808 ≤ n ∧ n ≤ 9223372036854775807) : wrap64 V = n := by
  subst hV
  unfold wrap64
  omega
theorem low_back (n : Int) (rest : List Int) (hb : Byt (lowB n 8 ++ rest)) (h : -9223372036854775808 ≤ n ∧ n ≤ 9223372036854775807) : wrap64 (vv (lowB n 8 ++ rest) 8) = n := by
  refine wrap_of _ _ ?_ h
  rw [vv_8i hb, sh_8, low_8]
  rfl
theorem list8 (l : List Int) (h : 8 ≤ l.length) : l = [rd l 0, rd l 1, rd l 2, rd l 3, rd l 4, rd l 5, rd l 6, rd l 7] ++ l.drop 8 := by
  obtain ⟨a, l, rfl⟩ : ∃ a t, l = a :: t := by cases l with | nil => simp at h | cons a t => exact ⟨a, t, rfl⟩
  obtain ⟨b, l, rfl⟩ : ∃ a t, l = a :: t := by cases l with | nil => simp at h | cons a t => exact ⟨a, t, rfl⟩
  obtain ⟨c, l, rfl⟩ : ∃ a t, l = a :: t := by cases l with | nil => simp at h | cons a t => exact ⟨a, t, rfl⟩
  obtain ⟨d, l, rfl⟩ : ∃ a t, l = a :: t := by cases l with | nil => simp at h | cons a t => exact ⟨a, t, rfl⟩
  obtain ⟨e, l, rfl⟩ : ∃ a t, l = a :: t := by cases l with | nil => simp at h | cons a t => exact ⟨a, t, rfl⟩
  obtain ⟨f, l, rfl⟩ : ∃ a t, l = a :: t := by cases l with | nil => simp at h | cons a t => exact ⟨a, t, rfl⟩
  obtain ⟨g, l, rfl⟩ : ∃ a t, l = a :: t := by cases l with | nil => simp at h | cons a t => exact ⟨a, t, rfl⟩
  obtain ⟨i, l, rfl⟩ : ∃ a t, l = a :: t := by cases l with | nil => simp at h | cons a t => exact ⟨a, t, rfl⟩
  rfl
theorem low_of {l : List Int} (h : Byt l) : lowB (wrap64 (vv l 8)) 8 = [rd l 0, rd l 1, rd l 2, rd l 3, rd l 4, rd l 5, rd l 6, rd l 7] := by
  have b0 := h.rd 0
  have b1 := h.rd 1
  have b2 := h.rd 2
  have b3 := h.rd 3
  have b4 := h.rd 4
  have b5 := h.rd 5
  have b6 := h.rd 6
  have b7 := h.rd 7
  obtain ⟨n, hn⟩ : ∃ n, n = wrap64 (vv l 8) := ⟨_, rfl⟩
  have hn2 : n % 18446744073709551616 = vv l 8 := by
    rw [hn, wrap_mod]
    have := vv_lt h 8
    have e : 2 ^ (8 * 8) = 18446744073709551616 := by decide
    rw [e] at this
    omega
  rw [← hn, low_8]
  clear hn
  rw [vv_8i h, sh_8 n] at hn2
  obtain ⟨g0, g1, g2, g3, g4, g5, g6, g7⟩ := digs2 _ _ _ _ _ _ _ _ _ _ _ _ _ _ _ _ (mod_b (sh n 0)) (mod_b (sh n 1)) (mod_b (sh n 2)) (mod_b (sh n 3)) (mod_b (sh n 4)) (mod_b (sh n 5)) (mod_b (sh n 6)) (mod_b (sh n 7)) b0 b1 b2 b3 b4 b5 b6 b7 hn2
  rw [g0, g1, g2, g3, g4, g5, g6, g7]

end Go.Proofs.Ytkfeoilnhpfknaa.ImFnExactImageRead
