/- The contract of internal/strconv.ParseUint at base 16 and 64 bits: an answer for every string; for at most 16 small digits their value. -/
import Derived.Test.YtkkodbbgdndhmaaDoorLxsFnExactLex
import Derived.Test.YtkkodbbgdndhmaaDoorQFnExactLexx5
import Derived.Test.YtkkodbbgdndhmaaDoorLb
import Derived.Lib.AtoiAllMem
import Derived.Lib.AtoiErrMem
import Derived.Laws.Strings3
import Derived.Laws.Closers25
import Derived.Laws.Closers25b
import Derived.BigCall
import Derived.BigGuard
namespace Go.Proofs.YtkkodbbgdndhmaaDoor.LxFnExactLex
open Go.RowKit Go.Proofs.YtkkodbbgdndhmaaDoor.QFnExactLex Go.Proofs.YtkkodbbgdndhmaaDoorW.PrintWords Go.Proofs.YtkkodbbgdndhmaaDoorW.PrintLast Go.Proofs.YtkkodbbgdndhmaaDoor.LexA
set_option linter.unusedSimpArgs false
set_option linter.unusedVariables false

def nums8 (l : List UInt8) : List Int := l.map fun b => (b.toNat : Int)
def ParsedI (t : ByteArray) (w : World) (e : Ending) (w' : World) : Prop :=
  ∃ (u : Int) (err : Option Int), e = .returned (.tuple #[.int .u64 u, errW err]) ∧ 0 ≤ u ∧ u < 18446744073709551616 ∧ (err = none ∨ err = some 1 ∨ err = some 2) ∧ Below w.heap.size w w' ∧
    ∀ v, hval 0 (nums8 t.data.toList) = some v → 0 < t.size → t.size ≤ 16 → u = v ∧ err = none

theorem lower_small : ∀ c : Fin 256, (97 ≤ c.val ∧ c.val ≤ 102) → bits .or .u8 (c.val : Int) 32 = (c.val : Int) := by decide +kernel
theorem hval_cons_none {a c : Int} {r : List Int} (h : hd c = none) : hval a (c :: r) = none := by show (match hd c with | none => none | some d => hval (a * 16 + d) r) = none; rw [h]
theorem hval_cons {a c d : Int} {r : List Int} (h : hd c = some d) : hval a (c :: r) = hval (a * 16 + d) r := by show (match hd c with | none => none | some d => hval (a * 16 + d) r) = _; rw [h]

set_option maxHeartbeats 32000000 in
set_option maxRecDepth 100000 in
theorem parseI_c (t : ByteArray) (hmax : t.size ≤ 1048576) (w : World) : Calls Tryd.prog 45 #[.string t, .int .i64 16, .int .i64 64] w (ParsedI t w) := by
  by_cases hne : t.size = 0
  · have hemp : t.toList.isEmpty = true := by
      rw [← decide_eq_emptyBytes]
      refine decide_eq_true ?_
      have : t.data.toList = [] := List.eq_nil_of_length_eq_zero (by rw [← Lib.size_eq]; exact hne)
      exact ByteArray.ext (Array.toList_inj.1 (by rw [this]; rfl))
    go_enter Tryd.func45, Tryd.ntmps45
    go_wp2
    go_ret2
    exact ⟨0, some 2, rfl, by omega, by omega, .inr (.inr rfl), Below.refl _ _, fun v _ h => by omega⟩
  have hemp : t.toList.isEmpty = false := by
    rw [← decide_eq_emptyBytes]
    exact decide_eq_false (fun h => hne (by rw [h]; rfl))
  have hcv := Lib.run_convert_string_bytes (P := Tryd.prog) w 9 22 5 t (u := .string) Tryd.underlying9 Tryd.underlying22 Tryd.underlying5
  have hB : ∀ j, j < t.size → (Lib.bytesWorld w 5 t).cell? ⟨w.heap.size, j, none⟩ = some (.int .u8 (t.data.toList.getD j 0).toNat) := fun j hj => Lib.bytesWorld_cell w 5 t j hj
  have HBw := Lib.hid (Lib.bytesWorld_below w 5 t)
  obtain ⟨W1, hW1⟩ : ∃ W1, W1 = Lib.bytesWorld w 5 t := ⟨_, rfl⟩
  rw [← hW1] at hcv hB HBw
  clear hW1
  obtain ⟨bs, hL⟩ : ∃ bs, bs = t.data.toList := ⟨_, rfl⟩
  have hLn : bs.length = t.size := by rw [hL, Lib.size_eq]
  rw [← hL] at hB
  have HL := Lib.hid hL
  clear hL
  have hmv : IntKind.u64.wrap (IntKind.u64.wrap 18446744073709551616 - 1) = 18446744073709551615 := by
    rw [IntKind.wrap_u64, IntKind.wrap_u64]
    decide
  have HF : Hid (∀ (u : Int) (err : Option Int), 0 ≤ u → u < 18446744073709551616 → (err = none ∨ err = some 1 ∨ err = some 2) → (∀ v, hval 0 (nums8 bs) = some v → bs.length ≤ 16 → u = v ∧ err = none) → ParsedI t w (.returned (.tuple #[.int .u64 u, errW err])) W1) := Lib.hid (fun u err h0 h1 h2 h3 => ⟨u, err, rfl, h0, h1, h2, HBw.out, fun v hv _ hs => h3 v (by rw [HL.out]; exact hv) (by rw [hLn]; exact hs)⟩)
  clear HBw HL
  go_enter Tryd.func45, Tryd.ntmps45
  go_wp2
  go_loop [12, 13, 101] (fun vu vn vi => ∃ (k : Nat) (a : Int), vu = .bool false ∧ vn = .int .u64 a ∧ vi = .int .i64 k ∧ k ≤ t.size ∧ 0 ≤ a ∧ a < 18446744073709551616 ∧ Hid (∀ v, hval 0 (nums8 bs) = some v → bs.length ≤ 16 → hval a (nums8 (bs.drop k)) = some v ∧ a < 16 ^ k))
    (fun _ _ vi => t.size - (intOf vi).toNat)
  case atStart => exact ⟨0, 0, rfl, rfl, rfl, by omega, by omega, by omega, Lib.hid (fun v hv _ => ⟨hv, by decide⟩)⟩
  case round =>
    obtain ⟨k, a, rfl, rfl, rfl, hk, a0, a1, HH⟩ := hrel
    by_cases hkn : k < t.size
    · have hc := hB k hkn
      have hdrop : nums8 (bs.drop k) = ((bs[k]'(by omega)).toNat : Int) :: nums8 (bs.drop (k + 1)) := by rw [List.drop_eq_getElem_cons (by omega)]; rfl
      have hget : bs.getD k 0 = bs[k]'(by omega) := by simp [List.getD, List.getElem?_eq_getElem (show k < bs.length by omega)]
      rw [hdrop] at HH
      rw [hget] at hc
      have hk16 : bs.length ≤ 16 → k ≤ 15 := by omega
      have HK := Lib.hid hk16
      generalize bs[k]'(by omega) = c at hc HH
      have hc256 : c.toNat < 256 := c.toNat_lt
      have hlow := lower_small ⟨c.toNat, hc256⟩
      clear hB hdrop hget hk16
      have HD : Hid (hd (c.toNat : Int) = none → ∀ (u : Int) (err : Option Int), 0 ≤ u → u < 18446744073709551616 → (err = none ∨ err = some 1 ∨ err = some 2) → ParsedI t w (.returned (.tuple #[.int .u64 u, errW err])) W1) := Lib.hid (fun hn u err h0 h1 h2 => HF.out u err h0 h1 h2 (fun v hv hs => by have h := (HH.out v hv hs).1; rw [hval_cons_none hn] at h; cases h))
      have HX : Hid (1152921504606846976 ≤ a → ∀ (u : Int) (err : Option Int), 0 ≤ u → u < 18446744073709551616 → (err = none ∨ err = some 1 ∨ err = some 2) → ParsedI t w (.returned (.tuple #[.int .u64 u, errW err])) W1) := Lib.hid (fun hn u err h0 h1 h2 => HF.out u err h0 h1 h2 (fun v hv hs => by
        have h := (HH.out v hv hs).2
        have h4 := HK.out hs
        have h5 : (16 : Int) ^ k ≤ 16 ^ 15 := by
          have := Nat.pow_le_pow_right (n := 16) (by decide) h4
          exact_mod_cast this
        have h6 : (16 : Int) ^ 15 = 1152921504606846976 := by decide
        omega))
      have HS : Hid (∀ d, hd (c.toNat : Int) = some d ∨ (hd (c.toNat : Int) = none ∧ 0 ≤ d ∧ d < 16) → ∀ v, hval 0 (nums8 bs) = some v → bs.length ≤ 16 → hval (a * 16 + d) (nums8 (bs.drop (k + 1))) = some v ∧ a * 16 + d < 16 ^ (k + 1)) := Lib.hid (fun d hd' v hv hs => by
        have h := HH.out v hv hs
        rcases hd' with hd' | ⟨hd', _⟩
        · rw [hval_cons hd'] at h
          have hr := hd_range hd'
          exact ⟨h.1, by rw [Int.pow_succ]; have := h.2; omega⟩
        · rw [hval_cons_none hd'] at h
          cases h.1)
      clear HH HF HK
      have hc0 : (0 : Int) ≤ (c.toNat : Int) := by omega
      have hc1 : (c.toNat : Int) < 256 := by omega
      have hlow' : 97 ≤ (c.toNat : Int) → (c.toNat : Int) ≤ 102 → bits .or .u8 (c.toNat : Int) 32 = (c.toNat : Int) := fun h0 h1 => hlow ⟨by show 97 ≤ c.toNat; omega, by show c.toNat ≤ 102; omega⟩
      have hv0 := bits_lo_u8 .or (c.toNat : Int) 32
      have hv1 := bits_hi_u8 .or (c.toNat : Int) 32
      clear hlow hc256
      generalize (c.toNat : Int) = y at hc hc0 hc1 hlow' hv0 hv1 HD HX HS
      have HLow := Lib.hid hlow'
      obtain ⟨z, hz⟩ : ∃ z, z = bits .or .u8 y 32 := ⟨_, rfl⟩
      rw [← hz] at hv0 hv1 HLow
      have HZ : Hid (∀ w1, Calls Tryd.prog 58 #[.int .u8 y] w1 fun e w' => e = .returned (.int .u8 z) ∧ w' = w1) := Lib.hid (fun w1 => (Go.Proofs.YtkkodbbgdndhmaaDoor.Lb.internal_strconv_lower y w1).mono (by rintro e w' ⟨rfl, rfl⟩; exact ⟨by rw [hz], rfl⟩))
      clear hz hlow'
      by_cases hdig : 48 ≤ y ∧ y ≤ 57
      · obtain ⟨hd0, hd1⟩ := hdig
        have d0 : decide (48 ≤ y) = true := decide_eq_true hd0
        have d1 : decide (y ≤ 57) = true := decide_eq_true hd1
        have hdy : hd y = some (y - 48) := by unfold hd; rw [if_pos ⟨hd0, hd1⟩]
        have HS2 := Lib.hid (HS.out _ (.inl hdy))
        have e3 : (y - 48) % 256 = y - 48 := by omega
        have d3 : decide (16 ≤ y - 48) = false := decide_eq_false (by omega)
        clear hdy HS HD HZ HLow
        by_cases hcut : 1152921504606846976 ≤ a
        · have HE := Lib.hid (HX.out hcut 18446744073709551615 (some 1) (by omega) (by omega) (.inr (.inl rfl)))
          have d4 : decide (1152921504606846976 ≤ a) = true := decide_eq_true hcut
          clear HX HS2
          go_wp2
          go_ret2
          exact HE.out
        · have d4 : decide (1152921504606846976 ≤ a) = false := decide_eq_false hcut
          clear HX
          have e4 : IntKind.u64.wrap (a * 16) = a * 16 := by rw [IntKind.wrap_u64]; omega
          have e5 : IntKind.u64.wrap (a * 16 + (y - 48)) = a * 16 + (y - 48) := by rw [IntKind.wrap_u64]; omega
          go_wp2
          go_round
          case rel => exact ⟨k + 1, a * 16 + (y - 48), rfl, rfl, by go_num, by omega, by omega, by omega, HS2⟩
          case measure => simp [intOf]; omega
      · have HNd : Hid (¬ (97 ≤ y ∧ y ≤ 102) → hd y = none) := Lib.hid (fun h => by unfold hd; rw [if_neg hdig, if_neg h])
        have HYd : Hid (97 ≤ y ∧ y ≤ 102 → hd y = some (z - 97 + 10)) := Lib.hid (fun h => by unfold hd; rw [if_neg hdig, if_pos h, HLow.out h.1 h.2]; congr 1; omega)
        have h95 : (y == 95) = true ∨ (y == 95) = false := by cases (y == 95) <;> simp
        have hdg : (decide (48 ≤ y) = false) ∨ (decide (48 ≤ y) = true ∧ decide (y ≤ 57) = false) := by
          by_cases h : 48 ≤ y
          · exact .inr ⟨decide_eq_true h, decide_eq_false (by omega)⟩
          · exact .inl (decide_eq_false h)
        by_cases hlet : 97 ≤ z ∧ z ≤ 122
        · have d5 : decide (97 ≤ z) = true := decide_eq_true hlet.1
          have d6 : decide (z ≤ 122) = true := decide_eq_true hlet.2
          have e3 : (z - 97) % 256 = z - 97 := by omega
          have e3b : (z - 97 + 10) % 256 = z - 97 + 10 := by omega
          by_cases hbig : 16 ≤ z - 97 + 10
          · have d3 : decide (16 ≤ z - 97 + 10) = true := decide_eq_true hbig
            have HE := Lib.hid (HD.out (HNd.out (fun h => by have := HLow.out h.1 h.2; omega)) 0 (some 2) (by omega) (by omega) (.inr (.inr rfl)))
            clear HNd HYd HD HX HS HLow hdig
            rcases hdg with d0 | ⟨d0, d1⟩ <;> rcases h95 with h95 | h95
            all_goals
              go_wp2_with (go_at_call 58; refine (HZ.out _).mono ?_; rintro e w' ⟨rfl, rfl⟩)
              all_goals go_ret2
              all_goals exact HE.out
          · have d3 : decide (16 ≤ z - 97 + 10) = false := decide_eq_false hbig
            have HS2 : Hid (∀ v, hval 0 (nums8 bs) = some v → bs.length ≤ 16 → hval (a * 16 + (z - 97 + 10)) (nums8 (bs.drop (k + 1))) = some v ∧ a * 16 + (z - 97 + 10) < 16 ^ (k + 1)) := Lib.hid (by
              by_cases h : 97 ≤ y ∧ y ≤ 102
              · exact HS.out _ (.inl (HYd.out h))
              · exact HS.out _ (.inr ⟨HNd.out h, by omega, by omega⟩))
            clear HNd HYd HD HS HLow hdig
            by_cases hcut : 1152921504606846976 ≤ a
            · have HE := Lib.hid (HX.out hcut 18446744073709551615 (some 1) (by omega) (by omega) (.inr (.inl rfl)))
              have d4 : decide (1152921504606846976 ≤ a) = true := decide_eq_true hcut
              clear HX HS2
              rcases hdg with d0 | ⟨d0, d1⟩ <;> rcases h95 with h95 | h95
              all_goals
                go_wp2_with (go_at_call 58; refine (HZ.out _).mono ?_; rintro e w' ⟨rfl, rfl⟩)
                all_goals go_ret2
                all_goals exact HE.out
            · have d4 : decide (1152921504606846976 ≤ a) = false := decide_eq_false hcut
              clear HX
              have e4 : IntKind.u64.wrap (a * 16) = a * 16 := by rw [IntKind.wrap_u64]; omega
              have e5 : IntKind.u64.wrap (a * 16 + (z - 97 + 10)) = a * 16 + (z - 97 + 10) := by rw [IntKind.wrap_u64]; omega
              rcases hdg with d0 | ⟨d0, d1⟩ <;> rcases h95 with h95 | h95
              all_goals
                go_wp2_with (go_at_call 58; refine (HZ.out _).mono ?_; rintro e w' ⟨rfl, rfl⟩)
                all_goals go_round
                all_goals first | exact ⟨k + 1, a * 16 + (z - 97 + 10), rfl, rfl, by go_num, by omega, by omega, by omega, HS2⟩ | (simp [intOf]; omega)
        · have hlt : (decide (97 ≤ z) = false) ∨ (decide (97 ≤ z) = true ∧ decide (z ≤ 122) = false) := by
            by_cases h : 97 ≤ z
            · exact .inr ⟨decide_eq_true h, decide_eq_false (by omega)⟩
            · exact .inl (decide_eq_false h)
          have HE := Lib.hid (HD.out (HNd.out (fun h => by have := HLow.out h.1 h.2; omega)) 0 (some 2) (by omega) (by omega) (.inr (.inr rfl)))
          clear HNd HYd HD HX HS HLow hdig hlet
          rcases hdg with d0 | ⟨d0, d1⟩ <;> rcases h95 with h95 | h95
          all_goals
            rcases hlt with d5 | ⟨d5, d6⟩
            all_goals
              go_wp2_with (go_at_call 58; refine (HZ.out _).mono ?_; rintro e w' ⟨rfl, rfl⟩)
              all_goals go_ret2
              all_goals exact HE.out
    · obtain rfl : k = t.size := by omega
      have HE := Lib.hid (HF.out a none a0 a1 (.inl rfl) (fun v hv hs => by
        have h := (HH.out v hv hs).1
        rw [List.drop_eq_nil_of_le (by omega)] at h
        exact ⟨Option.some.inj h, rfl⟩))
      have d9 : ¬ (t.size : Int) < (t.size : Int) := by omega
      clear HH HF
      go_wp2
      go_ret2
      exact HE.out

end Go.Proofs.YtkkodbbgdndhmaaDoor.LxFnExactLex
