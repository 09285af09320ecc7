/- Plain words of lexing: what a piece of letters and digits is. -/
import Derived.Test.YtkkodbbgdndhmaaDoorLxcFnExactLex
import Derived.Test.YtkkodbbgdndhmaaDoorLexBFnExactLex
namespace Go.Proofs.YtkkodbbgdndhmaaDoor.LxFnExactLex
open Go.RowKit Go.Proofs.YtkkodbbgdndhmaaDoor.QFnExactLex Go.Proofs.YtkkodbbgdndhmaaDoorW.PrintWords Go.Proofs.YtkkodbbgdndhmaaDoorW.PrintLast Go.Proofs.YtkkodbbgdndhmaaDoor.LexA Go.Proofs.YtkkodbbgdndhmaaDoor.Fw
open Go.Proofs.YtkkodbbgdndhmaaDoor.LexBFnExactLex (decL dval intV intV_no intV_bad intV_some)

def Byt (l : List Int) : Prop := ∀ x ∈ l, 0 ≤ x ∧ x < 256
theorem nums8_bytes {l : List Int} (h : Byt l) : nums8 (Lib.bytesOf l) = l := by
  unfold nums8 Lib.bytesOf
  rw [List.map_map]
  refine (List.map_congr_left fun x hx => ?_).trans (List.map_id l)
  have := h x hx
  show ((UInt8.ofNat x.toNat).toNat : Int) = x
  rw [UInt8.toNat_ofNat']
  omega
theorem bytes_nums8 (b : List UInt8) : Lib.bytesOf (nums8 b) = b := by
  unfold nums8 Lib.bytesOf
  rw [List.map_map]
  refine (List.map_congr_left fun x _ => ?_).trans (List.map_id b)
  show UInt8.ofNat ((x.toNat : Int)).toNat = x
  rw [Int.toNat_natCast]
  exact UInt8.ofNat_toNat
theorem bytes_inj {l k : List Int} (hl : Byt l) (hk : Byt k) (h : Lib.bytesOf l = Lib.bytesOf k) : l = k := by
  rw [← nums8_bytes hl, ← nums8_bytes hk, h]
theorem byt_nums8 (b : List UInt8) : Byt (nums8 b) := by
  intro x hx
  unfold nums8 at hx
  obtain ⟨c, _, rfl⟩ := List.mem_map.1 hx
  have := c.toNat_lt
  omega
theorem decL_eq (m : Int) : decL m = nums8 (Lib.itoa m) := rfl
theorem Byt.drop {l : List Int} (h : Byt l) (i : Nat) : Byt (l.drop i) := fun x hx => h x (List.drop_subset i l hx)
theorem Byt.take {l : List Int} (h : Byt l) (i : Nat) : Byt (l.take i) := fun x hx => h x (List.take_subset i l hx)

/-! decimals -/
theorem dig_val (d : Nat) (h : d < 10) : (UInt8.ofNat (48 + d)).toNat = 48 + d := by rw [UInt8.toNat_ofNat']; omega
theorem parse_dec : ∀ (u : Nat) (r : List UInt8), u < 18446744073709551616 → Lib.parseUint10 0 (Lib.decDigits u ++ r) = Lib.parseUint10 u r := by
  intro u
  induction u using Nat.strongRecOn with
  | _ u ih =>
    intro r hu
    by_cases h : u < 10
    · rw [Lib.decDigits, dif_pos h]
      show Lib.parseUint10 0 (UInt8.ofNat (48 + u) :: r) = _
      rw [Lib.parseUint10, dig_val u h, if_pos (by omega), if_neg (by omega), if_neg (by omega)]
      congr 1
      omega
    · rw [Lib.decDigits, dif_neg h, List.append_assoc, ih (u / 10) (by omega) _ (by omega)]
      show Lib.parseUint10 (u / 10) (UInt8.ofNat (48 + u % 10) :: r) = _
      rw [Lib.parseUint10, dig_val _ (by omega), if_pos (by omega), if_neg (by omega), if_neg (by omega)]
      congr 1
      omega
theorem dec_digits : ∀ (u : Nat), ∀ c ∈ Lib.decDigits u, 48 ≤ c.toNat ∧ c.toNat ≤ 57 := by
  intro u
  induction u using Nat.strongRecOn with
  | _ u ih =>
    by_cases h : u < 10
    · rw [Lib.decDigits, dif_pos h]
      intro c hc
      rw [List.mem_singleton.1 hc, dig_val u h]
      omega
    · rw [Lib.decDigits, dif_neg h]
      intro c hc
      rcases List.mem_append.1 hc with hc | hc
      · exact ih (u / 10) (by omega) c hc
      · rw [List.mem_singleton.1 hc, dig_val _ (by omega)]
        omega
theorem dec_ne (u : Nat) : Lib.decDigits u ≠ [] := by
  intro h
  have := Lib.decDigits_length u
  rw [h] at this
  have := Lib.nDigits_pos u
  simp at *
  omega
theorem mag_dec (u : Nat) (hu : u < 18446744073709551616) : Lib.parseMag (Lib.decDigits u) = .ok u := by
  unfold Lib.parseMag
  rw [if_neg (dec_ne u)]
  have := parse_dec u [] hu
  rw [List.append_nil] at this
  exact this
theorem atoi_itoa (m : Int) (h0 : -9223372036854775808 ≤ m) (h1 : m ≤ 9223372036854775807) : Lib.atoiAll (Lib.itoa m) = .ok m := by
  unfold Lib.itoa
  by_cases hm : m < 0
  · rw [if_pos hm, Lib.atoiAll_minus, mag_dec _ (by omega)]
    show (if 9223372036854775808 < m.natAbs then _ else Lib.NumEnd.ok (-(m.natAbs : Int))) = _
    rw [if_neg (by omega)]
    congr 1
    omega
  · rw [if_neg hm]
    have hd := dec_digits m.toNat
    have hm' := mag_dec m.toNat (by omega)
    cases he : Lib.decDigits m.toNat with
    | nil => exact absurd he (dec_ne _)
    | cons c r =>
      rw [he] at hd hm'
      have := hd c List.mem_cons_self
      rw [Lib.atoiAll_plain c r (by omega) (by omega), hm']
      show (if 9223372036854775808 ≤ m.toNat then _ else Lib.NumEnd.ok (m.toNat : Int)) = _
      rw [if_neg (by omega)]
      congr 1
      omega
theorem itoa_inj {m n : Int} (h0 : -9223372036854775808 ≤ m) (h1 : m ≤ 9223372036854775807) (k0 : -9223372036854775808 ≤ n) (k1 : n ≤ 9223372036854775807) (h : Lib.itoa m = Lib.itoa n) : m = n := by
  have a := atoi_itoa m h0 h1
  rw [h, atoi_itoa n k0 k1] at a
  injection a with a
  exact a.symm
/-! floats -/
theorem hd_hx : ∀ d : Fin 16, hd ((hx d.val).toNat : Int) = some (d.val : Int) := by decide
theorem hval_hex : ∀ (u : Nat) (r : List UInt8), hval 0 (nums8 (hexL u ++ r)) = hval u (nums8 r) := by
  intro u
  induction u using Nat.strongRecOn with
  | _ u ih =>
    intro r
    by_cases h : u < 16
    · rw [hexL_small h]
      show hval 0 (((hx u).toNat : Int) :: nums8 r) = _
      rw [hval_cons (hd_hx ⟨u, h⟩)]
      congr 1
      show 0 * 16 + (u : Int) = u
      omega
    · rw [hexL_big h, List.append_assoc, ih (u / 16) (by omega)]
      show hval _ (((hx (u % 16)).toNat : Int) :: nums8 r) = _
      rw [hval_cons (hd_hx ⟨u % 16, by omega⟩)]
      congr 1
      show ((u / 16 : Nat) : Int) * 16 + ((u % 16 : Nat) : Int) = u
      omega
theorem hval_zeros : ∀ (j : Nat) (r : List UInt8), hval 0 (nums8 (List.replicate j 48 ++ r)) = hval 0 (nums8 r)
  | 0, r => rfl
  | j + 1, r => by
    rw [List.replicate_succ]
    show hval 0 (48 :: nums8 (List.replicate j 48 ++ r)) = _
    rw [hval_cons (show hd 48 = some 0 by decide)]
    exact hval_zeros j r
/-- The hex digits of a float's text. -/
def hex16 (u : Nat) : List UInt8 := List.replicate (16 - (hexL u).length) 48 ++ hexL u
theorem flt_eq (u : Nat) : flt u = 48 :: 102 :: hex16 u := rfl
theorem hval_hex16 (u : Nat) : hval 0 (nums8 (hex16 u)) = some (u : Int) := by
  unfold hex16
  rw [hval_zeros]
  have := hval_hex u []
  rw [List.append_nil] at this
  exact this
theorem hex16_len (u : Nat) (hu : u < 18446744073709551616) : (hex16 u).length = 16 := by
  have := hexL_len 15 u (by omega)
  unfold hex16
  rw [List.length_append, List.length_replicate]
  omega
theorem wordOf_back (u : Nat) (hu : u < 18446744073709551616) : wordOf (wrap64 u) = u := by
  unfold wordOf
  rw [wrap_u64]
  unfold wrap64
  omega

/-! pieces -/
def Word (l : List Int) : Prop := smallW l = true ∨ greatW l = true
def IsInt (l : List Int) (m : Int) : Prop := -9223372036854775808 ≤ m ∧ m ≤ 9223372036854775807 ∧ l = decL m
def IsFlt (l : List Int) (u : Nat) : Prop := u < 18446744073709551616 ∧ l = nums8 (flt u) ∧ isF (wrap64 u) = true
def IsPiece (l : List Int) (t : S34) : Prop := (Word l ∧ t = ⟨1, 0, 0, l⟩) ∨ (∃ m, IsInt l m ∧ t = ⟨2, 0, m, []⟩) ∨ (∃ u, IsFlt l u ∧ t = ⟨3, 0, wrap64 u, []⟩)
theorem word_head {l : List Int} (h : Word l) : 65 ≤ l.getD 0 0 ∧ 0 < l.length := by
  rcases h with h | h
  · unfold smallW at h
    split at h
    · rename_i ht
      unfold smallB at h
      split at h
      · exact ⟨by omega, tail_pos ht⟩
      · cases h
    · cases h
  · unfold greatW at h
    split at h
    · rename_i ht
      unfold greatB at h
      split at h
      · exact ⟨by omega, tail_pos ht⟩
      · cases h
    · cases h
theorem dec_head (m : Int) : (decL m).getD 0 0 = 45 ∨ (48 ≤ (decL m).getD 0 0 ∧ (decL m).getD 0 0 ≤ 57) := by
  rw [decL_eq, nums8_getD]
  unfold Lib.itoa
  split
  · exact .inl rfl
  · have hd := dec_digits m.toNat
    cases he : Lib.decDigits m.toNat with
    | nil => exact absurd he (dec_ne _)
    | cons c r =>
      rw [he] at hd
      have := hd c List.mem_cons_self
      exact .inr (by show 48 ≤ (c.toNat : Int) ∧ (c.toNat : Int) ≤ 57; omega)
theorem dec_no_0f (m : Int) (r : List UInt8) : Lib.itoa m ≠ 48 :: 102 :: r := by
  unfold Lib.itoa
  split
  · intro h
    injection h with h _
    exact absurd h (by decide)
  · intro h
    have hd := dec_digits m.toNat 102 (by rw [h]; simp)
    exact absurd hd.2 (by decide)
theorem flt_head (u : Nat) : (nums8 (flt u)).getD 0 0 = 48 := by rw [nums8_getD]; rfl
theorem int_not_word {l : List Int} {m : Int} (h : IsInt l m) : ¬ Word l := by
  intro hw
  have h1 := (word_head hw).1
  rw [h.2.2] at h1
  have := dec_head m
  omega
theorem flt_not_word {l : List Int} {u : Nat} (h : IsFlt l u) : ¬ Word l := by
  intro hw
  have h1 := (word_head hw).1
  rw [h.2.1, flt_head] at h1
  omega
theorem nums8_inj {a b : List UInt8} (h : nums8 a = nums8 b) : a = b := by rw [← bytes_nums8 a, ← bytes_nums8 b, h]
theorem int_not_flt {l : List Int} {m : Int} {u : Nat} (h : IsInt l m) (k : IsFlt l u) : False := by
  have e := h.2.2.symm.trans k.2.1
  exact dec_no_0f m (hex16 u) (nums8_inj e)
theorem flt_inj {u v : Nat} (h : flt u = flt v) : u = v := by
  rw [flt_eq, flt_eq] at h
  injection h with _ h
  injection h with _ h
  have a := hval_hex16 u
  rw [h, hval_hex16 v] at a
  injection a with a
  omega
theorem piece_one {l : List Int} {t t' : S34} (h : IsPiece l t) (k : IsPiece l t') : t = t' := by
  rcases h with ⟨hw, rfl⟩ | ⟨m, hm, rfl⟩ | ⟨u, hu, rfl⟩
  · rcases k with ⟨_, rfl⟩ | ⟨n, hn, _⟩ | ⟨v, hv, _⟩
    · rfl
    · exact absurd hw (int_not_word hn)
    · exact absurd hw (flt_not_word hv)
  · rcases k with ⟨hw, _⟩ | ⟨n, hn, rfl⟩ | ⟨v, hv, _⟩
    · exact absurd hw (int_not_word hm)
    · have e : Lib.itoa m = Lib.itoa n := nums8_inj (hm.2.2.symm.trans hn.2.2)
      rw [itoa_inj hm.1 hm.2.1 hn.1 hn.2.1 e]
    · exact (int_not_flt hm hv).elim
  · rcases k with ⟨hw, _⟩ | ⟨n, hn, rfl⟩ | ⟨v, hv, rfl⟩
    · exact absurd hw (flt_not_word hu)
    · exact (int_not_flt hn hu).elim
    · rw [flt_inj (nums8_inj (hu.2.1.symm.trans hv.2.1))]

end Go.Proofs.YtkkodbbgdndhmaaDoor.LxFnExactLex
