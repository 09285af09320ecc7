/- The contracts of impl.isSmallWord, isGreatWord, isFloat, slices.Clone. -/
import Derived.Test.YtkkodbbgdndhmaaDoorLxrFnExactLex
namespace Go.Proofs.YtkkodbbgdndhmaaDoor.LxFnExactLex
open Go.RowKit Go.Proofs.YtkkodbbgdndhmaaDoor.QFnExactLex Go.Proofs.YtkkodbbgdndhmaaDoorW.PrintWords Go.Proofs.YtkkodbbgdndhmaaDoorW.PrintLast Go.Proofs.YtkkodbbgdndhmaaDoor.LexA
set_option linter.unusedSimpArgs false
set_option linter.unusedVariables false

def smallB (y : Int) : Bool := if 97 ≤ y then decide (y ≤ 122) else false
def greatB (y : Int) : Bool := if 65 ≤ y then decide (y ≤ 90) else false
def digitB (y : Int) : Bool := if 48 ≤ y then decide (y ≤ 57) else false
theorem small_c (y : Int) (w : World) : Calls Tryd.prog 30 #[.int .u8 y] w fun e w' => e = .returned (.bool (smallB y)) ∧ w' = w := by
  by_cases h : 97 ≤ y
  · have d : decide (97 ≤ y) = true := decide_eq_true h
    have e : smallB y = decide (y ≤ 122) := if_pos h
    rw [e]
    clear h e
    go_enter Tryd.func30, Tryd.ntmps30
    go_wp2
    go_ret
    exact ⟨rfl, rfl⟩
  · have d : decide (97 ≤ y) = false := decide_eq_false h
    have e : smallB y = false := if_neg h
    rw [e]
    clear h e
    go_enter Tryd.func30, Tryd.ntmps30
    go_wp2
    go_ret
    exact ⟨rfl, rfl⟩
theorem great_c (y : Int) (w : World) : Calls Tryd.prog 31 #[.int .u8 y] w fun e w' => e = .returned (.bool (greatB y)) ∧ w' = w := by
  by_cases h : 65 ≤ y
  · have d : decide (65 ≤ y) = true := decide_eq_true h
    have e : greatB y = decide (y ≤ 90) := if_pos h
    rw [e]
    clear h e
    go_enter Tryd.func31, Tryd.ntmps31
    go_wp2
    go_ret
    exact ⟨rfl, rfl⟩
  · have d : decide (65 ≤ y) = false := decide_eq_false h
    have e : greatB y = false := if_neg h
    rw [e]
    clear h e
    go_enter Tryd.func31, Tryd.ntmps31
    go_wp2
    go_ret
    exact ⟨rfl, rfl⟩
theorem digit_c (y : Int) (w : World) : Calls Tryd.prog 23 #[.int .u8 y] w fun e w' => e = .returned (.bool (digitB y)) ∧ w' = w := by
  by_cases h : 48 ≤ y
  · have d : decide (48 ≤ y) = true := decide_eq_true h
    have e : digitB y = decide (y ≤ 57) := if_pos h
    rw [e]
    clear h e
    go_enter Tryd.func23, Tryd.ntmps23
    go_wp2
    go_ret
    exact ⟨rfl, rfl⟩
  · have d : decide (48 ≤ y) = false := decide_eq_false h
    have e : digitB y = false := if_neg h
    rw [e]
    clear h e
    go_enter Tryd.func23, Tryd.ntmps23
    go_wp2
    go_ret
    exact ⟨rfl, rfl⟩
/-- A letter or a digit. -/
def innerB (y : Int) : Bool := if smallB y then true else if greatB y then true else digitB y
theorem inner_c (y : Int) (w : World) : Calls Tryd.prog 24 #[.int .u8 y] w fun e w' => e = .returned (.bool (innerB y)) ∧ w' = w := by
  unfold innerB
  have h1 := small_c y w
  have h2 := great_c y w
  have h3 := digit_c y w
  generalize smallB y = a at h1 ⊢
  generalize greatB y = b at h2 ⊢
  generalize digitB y = c at h3 ⊢
  have H1 := Lib.hid h1
  have H2 := Lib.hid h2
  have H3 := Lib.hid h3
  clear h1 h2 h3
  cases a <;> cases b
  all_goals
    go_enter Tryd.func24, Tryd.ntmps24
    go_wp2_with (first | (go_at_call 30; refine H1.out.mono ?_; rintro e w' ⟨rfl, rfl⟩) | (go_at_call 31; refine H2.out.mono ?_; rintro e w' ⟨rfl, rfl⟩) | (go_at_call 23; refine H3.out.mono ?_; rintro e w' ⟨rfl, rfl⟩))
    go_ret
    exact ⟨rfl, rfl⟩
/-- What no byte of a word is, behind its first. -/
def badB (y : Int) : Bool := if smallB y then false else !digitB y
theorem bad_c (y : Int) (w : World) : Calls Tryd.prog 56 #[.int .u8 y] w fun e w' => e = .returned (.bool (badB y)) ∧ w' = w := by
  unfold badB
  have h1 := small_c y w
  have h3 := digit_c y w
  generalize smallB y = a at h1 ⊢
  generalize digitB y = c at h3 ⊢
  have H1 := Lib.hid h1
  have H3 := Lib.hid h3
  clear h1 h3
  cases a
  all_goals
    go_enter Tryd.func56, Tryd.ntmps56
    go_wp2_with (first | (go_at_call 30; refine H1.out.mono ?_; rintro e w' ⟨rfl, rfl⟩) | (go_at_call 23; refine H3.out.mono ?_; rintro e w' ⟨rfl, rfl⟩))
    go_ret
    exact ⟨rfl, rfl⟩
def Found (l : List Int) (w : World) (e : Ending) (w' : World) : Prop := ∃ r : Int, e = .returned (.int .i64 r) ∧ decide (0 ≤ r) = l.any badB ∧ w' = w
theorem any_none {l : List Int} (h : ∀ j : Nat, j < l.length → badB (l.getD j 0) = false) : l.any badB = false := by
  rw [List.any_eq_false]
  intro s hs
  obtain ⟨j, hj, rfl⟩ := List.getElem_of_mem hs
  have := h j hj
  rw [List.getD_eq_getElem?_getD, List.getElem?_eq_getElem hj] at this
  show ¬ badB l[j] = true
  rw [show badB l[j] = false from this]
  decide
theorem any_some {l : List Int} (j : Nat) (hj : j < l.length) (h : badB (l.getD j 0) = true) : l.any badB = true := by
  rw [List.any_eq_true]
  rw [List.getD_eq_getElem?_getD, List.getElem?_eq_getElem hj] at h
  exact ⟨l[j], List.getElem_mem hj, h⟩
set_option maxHeartbeats 4000000 in
set_option maxRecDepth 100000 in
theorem index_c (A : Option Addr) (c : Nat) (l : List Int) (w : World) (hl : l.length ≤ 1099511627776) (hr : Kd.C (Kd.int .u8) w A l.length l) : Calls Tryd.prog 76 #[.slice A l.length c, .func (.func 56) #[] #[]] w (Found l w) := by
  have HR := Lib.hid hr
  clear hr
  go_enter Tryd.func76, Tryd.ntmps76
  go_wp2
  go_loop [5, 8] (fun v5 v8 => ∃ i : Nat, v8 = .int .i64 i ∧ i ≤ l.length ∧ Hid (∀ j : Nat, j < i → badB (l.getD j 0) = false)) (fun _ v8 => (l.length - intOf v8).toNat)
  case atStart => exact ⟨0, rfl, by omega, Lib.hid (fun j hj => by omega)⟩
  case round =>
    obtain ⟨i, rfl, hi, HF⟩ := hrel
    by_cases hlt : i < l.length
    · have p : (0 : Int) ≤ (i : Int) := by omega
      have q : (i : Int) < (l.length : Int) := by omega
      obtain ⟨ad, e1, hx⟩ := Kd.at_int HR.out i p (by omega)
      subst e1
      rw [Int.toNat_natCast, show rd l (i : Int) = l.getD i 0 from by unfold rd; rw [Int.toNat_natCast]] at hx
      have HA := Lib.hid (fun h => any_some (l := l) i hlt h)
      have HF2 : Hid (badB (l.getD i 0) = false → ∀ j : Nat, j < i + 1 → badB (l.getD j 0) = false) := Lib.hid (fun h j hj => by
        by_cases e : j = i
        · subst e; exact h
        · exact HF.out j (by omega))
      have HC := Lib.hid (fun w1 => bad_c (l.getD i 0) w1)
      generalize badB (l.getD i 0) = b at HA HF2 HC
      generalize l.getD i 0 = y at hx HC
      cases b
      · have HF3 := Lib.hid (HF2.out rfl)
        clear HF2 HA HF
        go_wp2_with (go_at_call 56; refine (HC.out _).mono ?_; rintro e w' ⟨rfl, rfl⟩)
        go_round
        case rel => exact ⟨i + 1, by go_num, by omega, HF3⟩
        case measure => simp [intOf]; omega
      · have HA3 := Lib.hid (HA.out rfl)
        clear HF2 HA HF
        go_wp2_with (go_at_call 56; refine (HC.out _).mono ?_; rintro e w' ⟨rfl, rfl⟩)
        go_ret
        exact ⟨_, rfl, by rw [HA3.out]; exact decide_eq_true (by omega), rfl⟩
    · have HF2 := Lib.hid (any_none (l := l) (fun j hj => HF.out j (by omega)))
      go_wp2
      go_ret
      exact ⟨_, rfl, by rw [HF2.out]; rfl, rfl⟩
theorem contains_c (A : Option Addr) (c : Nat) (l : List Int) (w : World) (hl : l.length ≤ 1099511627776) (hr : Kd.C (Kd.int .u8) w A l.length l) : Calls Tryd.prog 55 #[.slice A l.length c, .func (.func 56) #[] #[]] w fun e w' => e = .returned (.bool (l.any badB)) ∧ w' = w := by
  have HR := Lib.hid hr
  clear hr
  go_enter Tryd.func55, Tryd.ntmps55
  go_wp2_with fail
  refine (index_c A c l _ hl HR.out).mono ?_
  rintro e w' ⟨r, rfl, hr, rfl⟩
  have HD := Lib.hid hr
  clear hr
  go_wp2
  go_ret
  exact ⟨by rw [← HD.out]; rfl, rfl⟩

def inB (a b c : Int) : Bool := if b ≤ a then decide (a ≤ c) else false
theorem in_c (a b c : Int) (w : World) : Calls Tryd.prog 54 #[.int .i64 a, .int .i64 b, .int .i64 c] w fun e w' => e = .returned (.bool (inB a b c)) ∧ w' = w := by
  by_cases h : b ≤ a
  · have e : inB a b c = decide (a ≤ c) := if_pos h
    rw [e]
    clear e
    go_enter Tryd.func54, Tryd.ntmps54
    go_wp2
    go_ret
    exact ⟨rfl, rfl⟩
  · have e : inB a b c = false := if_neg h
    rw [e]
    clear e
    go_enter Tryd.func54, Tryd.ntmps54
    go_wp2
    go_ret
    exact ⟨rfl, rfl⟩
def tailB (l : List Int) : Bool := if inB l.length 1 8 then !(l.drop 1).any badB else false
set_option maxHeartbeats 4000000 in
set_option maxRecDepth 100000 in
theorem tail_c (A : Option Addr) (c : Nat) (l : List Int) (w : World) (hr : Kd.C (Kd.int .u8) w A l.length l) (hc : l.length ≤ c) : Calls Tryd.prog 43 #[.slice A l.length c] w fun e w' => e = .returned (.bool (tailB l)) ∧ w' = w := by
  have HR := Lib.hid hr
  clear hr
  have HI := Lib.hid (fun w1 => in_c l.length 1 8 w1)
  by_cases hi : inB l.length 1 8 = true
  · have he : tailB l = !(l.drop 1).any badB := by unfold tailB; rw [if_pos hi]
    rw [he]
    rw [hi] at HI
    have hlen : 1 ≤ l.length ∧ l.length ≤ 8 := by
      unfold inB at hi
      split at hi
      · have := of_decide_eq_true hi; omega
      · cases hi
    obtain ⟨hl1, hl8⟩ := hlen
    have p1 : (1 : Int) ≤ (l.length : Int) := by omega
    obtain ⟨ad, rfl⟩ : ∃ ad, A = some ad := by
      obtain ⟨ad, e, _⟩ := Kd.at_int HR.out 0 (by omega) (by omega)
      exact ⟨ad, e⟩
    have HT : Hid (∀ w1 A', A' = (if c = 1 then some ad else (some ad).map (·.add 1)) → w1 = w → Calls Tryd.prog 55 #[.slice A' (l.length - 1) (c - 1), .func (.func 56) #[] #[]] w1 fun e w' => e = .returned (.bool ((l.drop 1).any badB)) ∧ w' = w1) := Lib.hid (fun w1 A' hA hw => by
      subst hw
      have hd := Kd.C_drop HR.out (m := 1) hl1 hc
      have hs : (Kd.int .u8).sz = 1 := rfl
      rw [hs, Nat.mul_one, ← hA] at hd
      have h := contains_c A' (c - 1) (l.drop 1) w1 (by rw [List.length_drop]; omega) hd
      rw [List.length_drop] at h
      exact h)
    generalize (l.drop 1).any badB = b at HT ⊢
    clear he hi
    by_cases hc1 : c = 1
    · subst hc1
      have HT2 := Lib.hid (HT.out w (some ad) (by rw [if_pos rfl]) rfl)
      rw [show 1 - 1 = 0 from rfl, show l.length - 1 = 0 by omega] at HT2
      clear HT
      go_enter Tryd.func43, Tryd.ntmps43
      go_wp2_with (first | (go_at_call 54; refine (HI.out _).mono ?_; rintro e w' ⟨rfl, rfl⟩) | (go_at_call 55; refine HT2.out.mono ?_; rintro e w' ⟨rfl, rfl⟩))
      go_ret
      exact ⟨rfl, rfl⟩
    · have HT2 := Lib.hid (HT.out w (some (ad.add 1)) (by rw [if_neg hc1]; rfl) rfl)
      rw [show ad.add 1 = (⟨ad.block, ad.off + 1, none⟩ : Addr) from Addr.add_succ' ad 0] at HT2
      clear HT
      go_enter Tryd.func43, Tryd.ntmps43
      go_wp2_with (first | (go_at_call 54; refine (HI.out _).mono ?_; rintro e w' ⟨rfl, rfl⟩) | (go_at_call 55; refine HT2.out.mono ?_; rintro e w' ⟨rfl, rfl⟩))
      go_ret
      exact ⟨rfl, rfl⟩
  · have he : tailB l = false := by unfold tailB; rw [if_neg hi]
    rw [he]
    rw [Bool.eq_false_iff.2 hi] at HI
    clear he hi
    go_enter Tryd.func43, Tryd.ntmps43
    go_wp2_with (go_at_call 54; refine (HI.out _).mono ?_; rintro e w' ⟨rfl, rfl⟩)
    go_ret
    exact ⟨rfl, rfl⟩
def smallW (l : List Int) : Bool := if tailB l then smallB (l.getD 0 0) else false
def greatW (l : List Int) : Bool := if tailB l then greatB (l.getD 0 0) else false
theorem tail_pos {l : List Int} (h : tailB l = true) : 0 < l.length := by
  unfold tailB at h
  split at h
  · rename_i hi
    unfold inB at hi
    split at hi
    · omega
    · cases hi
  · cases h
set_option maxHeartbeats 4000000 in
set_option maxRecDepth 100000 in
theorem smallW_c (A : Option Addr) (c : Nat) (l : List Int) (w : World) (hr : Kd.C (Kd.int .u8) w A l.length l) (hc : l.length ≤ c) : Calls Tryd.prog 32 #[.slice A l.length c] w fun e w' => e = .returned (.bool (smallW l)) ∧ w' = w := by
  have HT := Lib.hid (tail_c A c l w hr hc)
  by_cases ht : tailB l = true
  · have he : smallW l = smallB (l.getD 0 0) := by unfold smallW; rw [if_pos ht]
    rw [he]
    rw [ht] at HT
    have hpos := tail_pos ht
    have p1 : (0 : Int) < (l.length : Int) := by omega
    obtain ⟨ad, e, x0⟩ := Kd.at_int hr 0 (by omega) (by omega)
    subst e
    rw [show (0 : Int).toNat = 0 from rfl, Addr.add_zero', show rd l 0 = l.getD 0 0 from rfl] at x0
    have HS := Lib.hid (fun w1 => small_c (l.getD 0 0) w1)
    generalize l.getD 0 0 = y at x0 HS ⊢
    clear he ht hr
    go_enter Tryd.func32, Tryd.ntmps32
    go_wp2_with (first | (go_at_call 43; refine HT.out.mono ?_; rintro e w' ⟨rfl, rfl⟩) | (go_at_call 30; refine (HS.out _).mono ?_; rintro e w' ⟨rfl, rfl⟩))
    go_ret
    exact ⟨rfl, rfl⟩
  · have he : smallW l = false := by unfold smallW; rw [if_neg ht]
    rw [he]
    rw [Bool.eq_false_iff.2 ht] at HT
    clear he ht hr
    go_enter Tryd.func32, Tryd.ntmps32
    go_wp2_with (go_at_call 43; refine HT.out.mono ?_; rintro e w' ⟨rfl, rfl⟩)
    go_ret
    exact ⟨rfl, rfl⟩
set_option maxHeartbeats 4000000 in
set_option maxRecDepth 100000 in
theorem greatW_c (A : Option Addr) (c : Nat) (l : List Int) (w : World) (hr : Kd.C (Kd.int .u8) w A l.length l) (hc : l.length ≤ c) : Calls Tryd.prog 33 #[.slice A l.length c] w fun e w' => e = .returned (.bool (greatW l)) ∧ w' = w := by
  have HT := Lib.hid (tail_c A c l w hr hc)
  by_cases ht : tailB l = true
  · have he : greatW l = greatB (l.getD 0 0) := by unfold greatW; rw [if_pos ht]
    rw [he]
    rw [ht] at HT
    have hpos := tail_pos ht
    have p1 : (0 : Int) < (l.length : Int) := by omega
    obtain ⟨ad, e, x0⟩ := Kd.at_int hr 0 (by omega) (by omega)
    subst e
    rw [show (0 : Int).toNat = 0 from rfl, Addr.add_zero', show rd l 0 = l.getD 0 0 from rfl] at x0
    have HS := Lib.hid (fun w1 => great_c (l.getD 0 0) w1)
    generalize l.getD 0 0 = y at x0 HS ⊢
    clear he ht hr
    go_enter Tryd.func33, Tryd.ntmps33
    go_wp2_with (first | (go_at_call 43; refine HT.out.mono ?_; rintro e w' ⟨rfl, rfl⟩) | (go_at_call 31; refine (HS.out _).mono ?_; rintro e w' ⟨rfl, rfl⟩))
    go_ret
    exact ⟨rfl, rfl⟩
  · have he : greatW l = false := by unfold greatW; rw [if_neg ht]
    rw [he]
    rw [Bool.eq_false_iff.2 ht] at HT
    clear he ht hr
    go_enter Tryd.func33, Tryd.ntmps33
    go_wp2_with (go_at_call 43; refine HT.out.mono ?_; rintro e w' ⟨rfl, rfl⟩)
    go_ret
    exact ⟨rfl, rfl⟩
set_option maxRecDepth 100000 in
theorem isF_c (n : Int) (w : World) : Calls Tryd.prog 38 #[.int .i64 n] w fun e w' => e = .returned (.bool (isF n)) ∧ w' = w := by
  unfold isF
  go_enter Tryd.func38, Tryd.ntmps38
  go_wp2_with (first | (go_at_call 50; refine (Go.Proofs.YtkkodbbgdndhmaaDoor.Fw.implFloat n _).mono ?_; rintro e w' ⟨rfl, rfl⟩) | (go_at_call 49; refine (Go.Proofs.YtkkodbbgdndhmaaDoor.Fw.implBits _ (Go.Proofs.YtkkodbbgdndhmaaDoor.Fw.wordOf_lt n) _).mono ?_; rintro e w' ⟨rfl, rfl⟩))
  go_ret
  exact ⟨rfl, rfl⟩
theorem truth_c (b : Bool) (w : World) : Calls Tryd.prog 26 #[.bool b] w fun e w' => e = .returned (.int .i64 (if b then 1 else 0)) ∧ w' = w := by
  cases b
  all_goals
    go_enter Tryd.func26, Tryd.ntmps26
    go_wp2
    go_ret
    exact ⟨rfl, rfl⟩

end Go.Proofs.YtkkodbbgdndhmaaDoor.LxFnExactLex
