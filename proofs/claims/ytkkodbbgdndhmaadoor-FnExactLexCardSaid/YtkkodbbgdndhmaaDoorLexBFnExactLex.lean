/- Plain words of lexing: ints in decimal. -/
import Derived.Test.YtkkodbbgdndhmaaDoorLexA
import Derived.Test.YtkkodbbgdndhmaaDoorQFnExactLexx1
import Derived.Lib.AtoiAllCases
import Derived.Lib.ItoaMem
import Derived.Lib.ItoaLen
namespace Go.Proofs.YtkkodbbgdndhmaaDoor.LexBFnExactLex
open Go.RowKit Go.Proofs.YtkkodbbgdndhmaaDoor.QFnExactLex Go.Proofs.YtkkodbbgdndhmaaDoor.Fw

/-- An int in decimal, as numbers. -/
def nums8 (l : List UInt8) : List Int := l.map fun b => (b.toNat : Int)
def decL (n : Int) : List Int := nums8 (Lib.itoa n)
def dval : Int → List Int → Option Int
  | acc, [] => some acc
  | acc, c :: r => if 48 ≤ c ∧ c ≤ 57 then dval (IntKind.u64.wrap (IntKind.u64.wrap (acc * 10) + (c - 48))) r else none
/-- What spec.l3int answers. -/
def intV (l : List Int) : Int × Bool :=
  let k := if l.getD 0 0 = 45 then 1 else 0
  if l.length ≤ k ∨ 20 < l.length then (0, false) else
  match dval 0 (l.drop k) with
  | none => (0, false)
  | some u =>
    let n := if k = 1 then wrap64 (IntKind.u64.wrap (-u)) else wrap64 u
    (n, (strOfNums (decL n)).toList == (strOfNums l).toList)
theorem intV_no {l : List Int} {k : Nat} (hk : k = if l.getD 0 0 = 45 then 1 else 0) (h : l.length ≤ k ∨ 20 < l.length) : intV l = (0, false) := by
  subst hk; exact if_pos h
theorem intV_bad {l : List Int} {k : Nat} (hk : k = if l.getD 0 0 = 45 then 1 else 0) (h : ¬ (l.length ≤ k ∨ 20 < l.length)) (hv : dval 0 (l.drop k) = none) : intV l = (0, false) := by
  subst hk; unfold intV; simp only; rw [if_neg h, hv]
theorem intV_some {l : List Int} {k : Nat} {u : Int} (hk : k = if l.getD 0 0 = 45 then 1 else 0) (h : ¬ (l.length ≤ k ∨ 20 < l.length)) (hv : dval 0 (l.drop k) = some u) :
    intV l = ((if k = 1 then wrap64 (IntKind.u64.wrap (-u)) else wrap64 u), (strOfNums (decL (if k = 1 then wrap64 (IntKind.u64.wrap (-u)) else wrap64 u))).toList == (strOfNums l).toList) := by
  subst hk; unfold intV; simp only; rw [if_neg h, hv]
theorem dval_drop {l : List Int} {i : Nat} (hi : i < l.length) (acc : Int) : dval acc (l.drop i) = if 48 ≤ l.getD i 0 ∧ l.getD i 0 ≤ 57 then dval (IntKind.u64.wrap (IntKind.u64.wrap (acc * 10) + (l.getD i 0 - 48))) (l.drop (i + 1)) else none := by
  rw [List.drop_eq_getElem_cons hi, List.getD_eq_getElem?_getD, List.getElem?_eq_getElem hi]
  rfl

theorem nums8_append (a b : List UInt8) : nums8 (a ++ b) = nums8 a ++ nums8 b := List.map_append
theorem nums8_length (a : List UInt8) : (nums8 a).length = a.length := List.length_map _
theorem num8_of (n : Nat) : (fun b : UInt8 => (b.toNat : Int)) (UInt8.ofNat n) = ((n % 256 : Nat) : Int) := by
  show ((UInt8.ofNat n).toNat : Int) = _
  rw [UInt8.toNat_ofNat']
theorem nd_le : ∀ (k u : Nat), u < 10 ^ (k + 1) → Lib.nDigits u ≤ k + 1
  | 0, u, h => by rw [Lib.nDigits_small (by simpa using h)]; exact Nat.le_refl _
  | k + 1, u, h => by
    by_cases hu : u < 10
    · rw [Lib.nDigits_small hu]; omega
    · rw [Lib.nDigits_big hu]
      have := nd_le k (u / 10) (by rw [Nat.pow_succ] at h; omega)
      omega
/-- l3digits writes the decimal digits. -/
theorem digits_dec : ∀ (j u : Nat), u < 18446744073709551616 → u < 10 ^ (j + 1) → j ≤ 30 → ∀ k, j < k → spec_l3digits.f k (u : Int) = some (nums8 (Lib.decDigits u)) := by
  intro j
  induction j with
  | zero =>
    intro u hu h1 hj k hk
    obtain ⟨k, rfl⟩ : ∃ k', k = k' + 1 := ⟨k - 1, by omega⟩
    have h10 : u < 10 := by simpa using h1
    rw [spec_l3digits.f, if_pos (by omega), Lib.decDigits, dif_pos h10]
    congr 1
    show [_] = [_]
    congr 1
    rw [wrap_u64, num8_of]
    omega
  | succ j ih =>
    intro u hu h1 hj k hk
    obtain ⟨k, rfl⟩ : ∃ k', k = k' + 1 := ⟨k - 1, by omega⟩
    by_cases h10 : u < 10
    · rw [spec_l3digits.f, if_pos (by omega), Lib.decDigits, dif_pos h10]
      congr 1
      show [_] = [_]
      congr 1
      rw [wrap_u64, num8_of]
      omega
    · have e1 : IntKind.u64.wrap (Int.tdiv (u : Int) 10) = ((u / 10 : Nat) : Int) := by
        rw [wrap_u64, Int.tdiv_eq_ediv_of_nonneg (by omega)]; omega
      have hlen := nd_le j (u / 10) (by rw [Nat.pow_succ] at h1; omega)
      rw [spec_l3digits.f, if_neg (by omega), e1, ih (u / 10) (by omega) (by rw [Nat.pow_succ] at h1; omega) (by omega) k (by omega)]
      show (if (nums8 (Lib.decDigits (u / 10))).length < 140737488355328 then _ else _) = _
      rw [if_pos (by rw [nums8_length, Lib.decDigits_length]; omega), Lib.decDigits.eq_1 u, dif_neg h10, nums8_append]
      congr 2
      show [_] = [_]
      congr 1
      rw [wrap_u64, num8_of, Int.tmod_eq_emod_of_nonneg (by omega)]
      omega
theorem dec_len (n : Int) (h0 : -9223372036854775808 ≤ n) (h1 : n ≤ 9223372036854775807) : (decL n).length ≤ 21 := by
  rw [decL, nums8_length]; exact Lib.itoa_length_le n h0 h1
/-- l3dec writes it. -/
theorem dec_f (n : Int) (h0 : -9223372036854775808 ≤ n) (h1 : n ≤ 9223372036854775807) : spec_l3dec.f 40 n = some (decL n) := by
  unfold spec_l3dec.f decL Lib.itoa
  by_cases hn : n < 0
  · have e : IntKind.u64.wrap (-(IntKind.u64.wrap n)) = (n.natAbs : Int) := by rw [wrap_u64, wrap_u64]; omega
    rw [if_pos hn, if_pos hn, e, digits_dec 20 n.natAbs (by omega) (by omega) (by omega) 40 (by omega)]
    have hl := nd_le 20 n.natAbs (by omega)
    show (if ([45] : List Int).length + (nums8 (Lib.decDigits n.natAbs)).length < 140737488355328 then _ else _) = _
    rw [if_pos (by rw [nums8_length, Lib.decDigits_length]; simp; omega)]
    rfl
  · have e : IntKind.u64.wrap n = (n.toNat : Int) := by rw [wrap_u64]; omega
    rw [if_neg hn, if_neg hn, e, digits_dec 20 n.toNat (by omega) (by omega) (by omega) 40 (by omega)]
    rfl

end Go.Proofs.YtkkodbbgdndhmaaDoor.LexBFnExactLex
