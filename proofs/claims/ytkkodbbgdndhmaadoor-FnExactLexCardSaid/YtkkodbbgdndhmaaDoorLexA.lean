/- Plain words of lexing: digits in base 16, floats' texts. -/
import Derived.Test.YtkkodbbgdndhmaaDoorFwb
namespace Go.Proofs.YtkkodbbgdndhmaaDoor.LexA
open Go.RowKit Go.Proofs.YtkkodbbgdndhmaaDoor.Fw

/-- The digit that a byte is in base 16, in small letters. -/
def hd (c : Int) : Option Int := if 48 ≤ c ∧ c ≤ 57 then some (c - 48) else if 97 ≤ c ∧ c ≤ 102 then some (c - 87) else none
def hval : Int → List Int → Option Int
  | acc, [] => some acc
  | acc, c :: r => match hd c with
    | none => none
    | some d => hval (acc * 16 + d) r
theorem hd_range {c d : Int} (h : hd c = some d) : 0 ≤ d ∧ d < 16 := by
  unfold hd at h
  split at h
  · injection h with h; omega
  · split at h
    · injection h with h; omega
    · cases h
/-- The bits of an int are those of a float, and of one alone where they are no number. -/
def isF (n : Int) : Bool := bitsOf (wordOf n) == n
/-- What spec.l3float answers. -/
def floatF (l : List Int) : Int × Bool :=
  if l.length = 18 ∧ l.getD 0 0 = 48 ∧ l.getD 1 0 = 102 then
    match hval 0 (l.drop 2) with
    | none => (0, false)
    | some u => (wrap64 u, isF (wrap64 u))
  else (0, false)
theorem floatF_no {l : List Int} (h : ¬ (l.length = 18 ∧ l.getD 0 0 = 48 ∧ l.getD 1 0 = 102)) : floatF l = (0, false) := if_neg h
theorem floatF_bad {l : List Int} (h : l.length = 18 ∧ l.getD 0 0 = 48 ∧ l.getD 1 0 = 102) (hv : hval 0 (l.drop 2) = none) : floatF l = (0, false) := by
  unfold floatF; rw [if_pos h, hv]
theorem floatF_some {l : List Int} {u : Int} (h : l.length = 18 ∧ l.getD 0 0 = 48 ∧ l.getD 1 0 = 102) (hv : hval 0 (l.drop 2) = some u) : floatF l = (wrap64 u, isF (wrap64 u)) := by
  unfold floatF; rw [if_pos h, hv]
theorem hval_drop {l : List Int} {i : Nat} (hi : i < l.length) (acc : Int) : hval acc (l.drop i) = match hd (l.getD i 0) with | none => none | some d => hval (acc * 16 + d) (l.drop (i + 1)) := by
  rw [List.drop_eq_getElem_cons hi, List.getD_eq_getElem?_getD, List.getElem?_eq_getElem hi]
  rfl
theorem or_digit (u d : Int) (h0 : 0 ≤ u) (h1 : u < 1152921504606846976) (d0 : 0 ≤ d) (d1 : d < 16) : bits .or .u64 (u * 16) d = u * 16 + d := by
  obtain ⟨a, rfl⟩ := Int.eq_ofNat_of_zero_le h0
  obtain ⟨b, rfl⟩ := Int.eq_ofNat_of_zero_le d0
  have e : ((a : Int) * 16) = ((a * 16 : Nat) : Int) := by omega
  rw [e, or_nat _ _ (by omega) (by omega), show a * 16 = 2 ^ 4 * a by omega, Go.Proofs.YtkkodbbgdndhmaaDoor.Fl.or_add a b 4 (by omega)]
  omega

end Go.Proofs.YtkkodbbgdndhmaaDoor.LexA
