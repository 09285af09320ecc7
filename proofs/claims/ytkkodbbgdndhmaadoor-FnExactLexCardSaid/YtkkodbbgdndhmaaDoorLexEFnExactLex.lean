/- Plain laws of the printed reference: ints, floats and words of a piece. -/
import Derived.Test.YtkkodbbgdndhmaaDoorLexDFnExactLex
import Derived.Test.YtkkodbbgdndhmaaDoorQFnExactLexx4
import Derived.Test.YtkkodbbgdndhmaaDoorAid
namespace Go.Proofs.YtkkodbbgdndhmaaDoor.LxFnExactLex
open Go.RowKit Go.Proofs.YtkkodbbgdndhmaaDoor.QFnExactLex Go.Proofs.YtkkodbbgdndhmaaDoorW.PrintWords Go.Proofs.YtkkodbbgdndhmaaDoorW.PrintLast Go.Proofs.YtkkodbbgdndhmaaDoor.LexA Go.Proofs.YtkkodbbgdndhmaaDoor.Fw Go.Proofs.YtkkodbbgdndhmaaDoor.Aid
set_option linter.unusedVariables false
open Go.Proofs.YtkkodbbgdndhmaaDoor.LexBFnExactLex (decL dval intV intV_no intV_bad intV_some dval_drop digits_dec nd_le nums8_length nums8_append)

theorem Byt.at {l : List Int} (h : Byt l) (i : Nat) : 0 ≤ l.getD i 0 ∧ l.getD i 0 < 256 := by
  by_cases hi : i < l.length
  · rw [List.getD_eq_getElem?_getD, List.getElem?_eq_getElem hi]
    exact h _ (List.getElem_mem hi)
  · rw [List.getD_eq_getElem?_getD, List.getElem?_eq_none (by omega)]
    exact ⟨by decide, by decide⟩
theorem rdn (l : List Int) (i : Nat) : rd l (i : Int) = l.getD i 0 := by unfold rd; rw [Int.toNat_natCast]
theorem inner_f (c : Int) : spec_l3inner.f c = some (innerB c) := by
  unfold spec_l3inner.f innerB smallB greatB digitB
  by_cases h1 : 97 ≤ c
  · by_cases h2 : c ≤ 122
    · simp [h1, h2]
    · have h3 : ¬ c ≤ 90 := by omega
      have h4 : ¬ c ≤ 57 := by omega
      have h5 : (65 : Int) ≤ c := by omega
      have h6 : (48 : Int) ≤ c := by omega
      simp [h1, h2, h3, h4, h5, h6]
  · by_cases h3 : 65 ≤ c
    · by_cases h4 : c ≤ 90
      · simp [h1, h3, h4]
      · have h5 : ¬ c ≤ 57 := by omega
        have h6 : (48 : Int) ≤ c := by omega
        simp [h1, h3, h4, h5, h6]
    · by_cases h6 : 48 ≤ c
      · simp [h1, h3, h6]
      · simp [h1, h3, h6]

/-! ints -/
theorem dec_tells (n : Int) (h0 : -9223372036854775808 ≤ n) (h1 : n ≤ 9223372036854775807) : Tells (fun k => spec_l3dec.f k n) (fun r => r = decL n) := by
  refine ⟨_, rfl, 40, fun k hk => ?_⟩
  show spec_l3dec.f k n = some (decL n)
  unfold spec_l3dec.f decL Lib.itoa
  by_cases hn : n < 0
  · have e : IntKind.u64.wrap (-(IntKind.u64.wrap n)) = (n.natAbs : Int) := by rw [wrap_u64, wrap_u64]; omega
    rw [if_pos hn, if_pos hn, e, digits_dec 20 n.natAbs (by omega) (by omega) (by omega) k (by omega)]
    have hl := nd_le 20 n.natAbs (by omega)
    show (if ([45] : List Int).length + (nums8 (Lib.decDigits n.natAbs)).length < 140737488355328 then _ else _) = _
    rw [if_pos (by rw [nums8_length, Lib.decDigits_length]; simp; omega)]
    rfl
  · have e : IntKind.u64.wrap n = (n.toNat : Int) := by rw [wrap_u64]; omega
    rw [if_neg hn, if_neg hn, e, digits_dec 20 n.toNat (by omega) (by omega) (by omega) k (by omega)]
    rfl
theorem wrap64_range (x : Int) : -9223372036854775808 ≤ wrap64 x ∧ wrap64 x ≤ 9223372036854775807 := by unfold wrap64; omega
theorem int_loop (l : List Int) (hl : l.length ≤ 20) (hb : Byt l) (k0 : Nat) (d : Nat) : ∀ (i : Nat) (u : Int), i ≤ l.length → l.length - i = d →
    Tells (fun k => spec_l3int.l0 k l (k0 : Int) u (i : Int)) (fun r => r = match dval u (l.drop i) with
      | none => (0, false)
      | some u => ((if k0 = 1 then wrap64 (IntKind.u64.wrap (-u)) else wrap64 u), (strOfNums (decL (if k0 = 1 then wrap64 (IntKind.u64.wrap (-u)) else wrap64 u))).toList == (strOfNums l).toList)) := by
  induction d with
  | zero =>
    intro i u hi hd
    refine Tells.step (fun k => by rw [spec_l3int.l0]) ?_
    refine Tells.neg (by omega) ?_
    have e : l.drop i = [] := List.drop_eq_nil_of_le (by omega)
    rw [e]
    show Tells _ (fun r => r = ((if k0 = 1 then wrap64 (IntKind.u64.wrap (-u)) else wrap64 u), (strOfNums (decL (if k0 = 1 then wrap64 (IntKind.u64.wrap (-u)) else wrap64 u))).toList == (strOfNums l).toList))
    by_cases hk : k0 = 1
    · refine Tells.pos (by omega) ?_
      rw [if_pos hk]
      have hw := wrap64_range (IntKind.u64.wrap (-u))
      exact Tells.bind (dec_tells _ hw.1 hw.2) fun t ht => Tells.now (by rw [ht])
    · refine Tells.neg (by omega) ?_
      rw [if_neg hk]
      have hw := wrap64_range u
      exact Tells.bind (dec_tells _ hw.1 hw.2) fun t ht => Tells.now (by rw [ht])
  | succ d ih =>
    intro i u hi hd
    refine Tells.step (fun k => by rw [spec_l3int.l0]) ?_
    refine Tells.pos (by omega) (Tells.pos (by omega) ?_)
    rw [rdn, dval_drop (by omega)]
    refine Tells.ite (fun h => Tells.now ?_) (fun h => Tells.ite (fun h2 => Tells.now ?_) (fun h2 => ?_))
    · rw [if_neg (by omega)]
    · rw [if_neg (by omega)]
    · rw [if_pos (by omega), show (l.getD i 0 - 48) % 256 = l.getD i 0 - 48 from by omega, wrap64_id (by omega) (by omega), show (i : Int) + 1 = ((i + 1 : Nat) : Int) from by omega]
      exact ih (i + 1) _ (by omega) (by omega)
theorem int_tells (l : List Int) (hb : Byt l) : Tells (fun k => spec_l3int.f k l) (fun r => r = intV l) := by
  have key : ∀ k0 : Nat, (k0 = if l.getD 0 0 = 45 then 1 else 0) → k0 ≤ l.length → Tells (fun k => spec_l3int.j1 k l (k0 : Int)) (fun r => r = intV l) := by
    intro k0 hk0 hle
    refine Tells.step (fun k => by rw [spec_l3int.j1]) ?_
    by_cases h1 : l.length = k0
    · refine Tells.pos (by omega) (Tells.step (fun k => by rw [spec_l3int.j2]) (Tells.pos rfl (Tells.now ?_)))
      rw [intV_no hk0 (by omega)]
    · refine Tells.neg (by omega) (Tells.step (fun k => by rw [spec_l3int.j2]) ?_)
      by_cases h2 : 20 < l.length
      · refine Tells.pos (decide_eq_true (by omega)) (Tells.now ?_)
        rw [intV_no hk0 (by omega)]
      · refine Tells.neg (by rw [decide_eq_false (by omega)]; decide) ?_
        refine (int_loop l (by omega) hb k0 (l.length - k0) k0 0 hle rfl).mono fun r hr => ?_
        rw [hr]
        cases hv : dval 0 (l.drop k0) with
        | none => exact (intV_bad hk0 (by omega) hv).symm
        | some u => exact (intV_some hk0 (by omega) hv).symm
  unfold spec_l3int.f
  by_cases hl : 0 < l.length
  · refine Tells.pos (by omega) (Tells.pos (by omega) (Tells.step (fun k => by rw [spec_l3int.j0]) ?_))
    by_cases h : l.getD 0 0 = 45
    · refine Tells.pos (by rw [show rd l 0 = l.getD 0 0 from rfl, h]; rfl) ?_
      exact key 1 (by rw [if_pos h]) hl
    · refine Tells.neg (by rw [show rd l 0 = l.getD 0 0 from rfl]; simpa using h) ?_
      exact key 0 (by rw [if_neg h]) (by omega)
  · have e : l = [] := List.eq_nil_of_length_eq_zero (by omega)
    refine Tells.neg (by omega) (Tells.step (fun k => by rw [spec_l3int.j0]) (Tells.neg (by decide) ?_))
    exact key 0 (by rw [e]; rfl) (by omega)
theorem dval_dec : ∀ (u : Nat) (r : List UInt8), u < 18446744073709551616 → dval 0 (nums8 (Lib.decDigits u ++ r)) = dval (u : Int) (nums8 r) := by
  intro u
  induction u using Nat.strongRecOn with
  | _ u ih =>
    intro r hu
    by_cases h : u < 10
    · rw [Lib.decDigits, dif_pos h]
      show dval 0 (((UInt8.ofNat (48 + u)).toNat : Int) :: nums8 r) = _
      rw [dval, dig_val u h, if_pos (by omega)]
      congr 1
      rw [wrap_u64, wrap_u64]
      omega
    · rw [Lib.decDigits, dif_neg h, List.append_assoc, ih (u / 10) (by omega) _ (by omega)]
      show dval _ (((UInt8.ofNat (48 + u % 10)).toNat : Int) :: nums8 r) = _
      rw [dval, dig_val _ (by omega), if_pos (by omega)]
      congr 1
      rw [wrap_u64, wrap_u64]
      omega
theorem strOf_eq {a b : List Int} (ha : Byt a) (hb : Byt b) : ((strOfNums a).toList == (strOfNums b).toList) = true ↔ a = b := by
  rw [Lib.strOfNums_toList, Lib.strOfNums_toList, beq_iff_eq]
  exact ⟨fun h => bytes_inj ha hb h, fun h => by rw [h]⟩
/-- What l3int says is right. -/
theorem intV_true {l : List Int} (hb : Byt l) (h : (intV l).2 = true) : IsInt l (intV l).1 := by
  obtain ⟨k, hk⟩ : ∃ k : Nat, k = if l.getD 0 0 = 45 then 1 else 0 := ⟨_, rfl⟩
  by_cases h1 : l.length ≤ k ∨ 20 < l.length
  · rw [intV_no hk h1] at h; cases h
  · cases hv : dval 0 (l.drop k) with
    | none => rw [intV_bad hk h1 hv] at h; cases h
    | some u =>
      rw [intV_some hk h1 hv] at h ⊢
      have e := (strOf_eq (byt_nums8 _) hb).1 h
      refine ⟨?_, ?_, e.symm⟩
      · dsimp only; split <;> exact (wrap64_range _).1
      · dsimp only; split <;> exact (wrap64_range _).2
theorem intV_of {l : List Int} {m : Int} (h : IsInt l m) : intV l = (m, true) := by
  obtain ⟨h0, h1, rfl⟩ := h
  have hb : Byt (decL m) := byt_nums8 _
  have hself : ((strOfNums (decL m)).toList == (strOfNums (decL m)).toList) = true := beq_self_eq_true _
  by_cases hm : m < 0
  · have e : decL m = 45 :: nums8 (Lib.decDigits m.natAbs) := by rw [decL_eq]; unfold Lib.itoa; rw [if_pos hm]; rfl
    have hlen : (decL m).length = 1 + Lib.nDigits m.natAbs := by rw [e, List.length_cons, nums8_length, Lib.decDigits_length]; omega
    have hnd := nd_le 18 m.natAbs (by omega)
    have hp := Lib.nDigits_pos m.natAbs
    have hk : 1 = if (decL m).getD 0 0 = 45 then 1 else 0 := by rw [e]; rfl
    have hv : dval 0 ((decL m).drop 1) = some (m.natAbs : Int) := by
      rw [e]
      show dval 0 (nums8 (Lib.decDigits m.natAbs)) = _
      have := dval_dec m.natAbs [] (by omega)
      rw [List.append_nil] at this
      exact this
    rw [intV_some hk (by omega) hv, if_pos rfl]
    have en : wrap64 (IntKind.u64.wrap (-(m.natAbs : Int))) = m := by rw [wrap_u64]; unfold wrap64; omega
    rw [en, hself]
  · have e : decL m = nums8 (Lib.decDigits m.toNat) := by rw [decL_eq]; unfold Lib.itoa; rw [if_neg hm]
    have hlen : (decL m).length = Lib.nDigits m.toNat := by rw [e, nums8_length, Lib.decDigits_length]
    have hnd := nd_le 18 m.toNat (by omega)
    have hp := Lib.nDigits_pos m.toNat
    have hk : 0 = if (decL m).getD 0 0 = 45 then 1 else 0 := by
      have hd := dec_head m
      rcases hd with hd | hd
      · exfalso
        rw [e, nums8_getD] at hd
        have hg := dec_digits m.toNat
        cases he : Lib.decDigits m.toNat with
        | nil => exact absurd he (dec_ne _)
        | cons c r =>
          rw [he] at hg hd
          have h1 := hg c List.mem_cons_self
          have h2 : (c.toNat : Int) = 45 := hd
          omega
      · rw [if_neg (by omega)]
    have hv : dval 0 ((decL m).drop 0) = some (m.toNat : Int) := by
      rw [e]
      have := dval_dec m.toNat [] (by omega)
      rw [List.append_nil] at this
      exact this
    rw [intV_some hk (by omega) hv, if_neg (by decide)]
    have en : wrap64 ((m.toNat : Nat) : Int) = m := by unfold wrap64; omega
    rw [en, hself]

/-! floats -/
theorem hd_inj {c c' d : Int} (h : hd c = some d) (h' : hd c' = some d) : c = c' := by
  unfold hd at h h'
  split at h
  · injection h with h
    split at h'
    · injection h' with h'; omega
    · split at h'
      · injection h' with h'; omega
      · cases h'
  · split at h
    · injection h with h
      split at h'
      · injection h' with h'; omega
      · split at h'
        · injection h' with h'; omega
        · cases h'
    · cases h
theorem hval_inj : ∀ (a b : List Int) (x y u : Int), a.length = b.length → hval x a = some u → hval y b = some u → x = y ∧ a = b
  | [], [], x, y, u, _, h, k => by
    injection h with h
    injection k with k
    exact ⟨by omega, rfl⟩
  | [], _ :: _, _, _, _, hl, _, _ => by simp at hl
  | _ :: _, [], _, _, _, hl, _, _ => by simp at hl
  | c :: a, c' :: b, x, y, u, hl, h, k => by
    cases e : hd c with
    | none => rw [hval, e] at h; cases h
    | some d =>
      cases e' : hd c' with
      | none => rw [hval, e'] at k; cases k
      | some d' =>
        rw [hval_cons e] at h
        rw [hval_cons e'] at k
        obtain ⟨h1, h2⟩ := hval_inj a b _ _ u (by simpa using hl) h k
        have r := hd_range e
        have r' := hd_range e'
        have hdd : d = d' := by omega
        subst hdd
        exact ⟨by omega, by rw [h2, hd_inj e e']⟩
theorem hval_pos : ∀ (a : List Int) (x u : Int), 0 ≤ x → hval x a = some u → 0 ≤ u ∧ u < (x + 1) * 16 ^ a.length
  | [], x, u, hx, h => by injection h with h; subst h; simp; omega
  | c :: a, x, u, hx, h => by
    cases e : hd c with
    | none => rw [hval, e] at h; cases h
    | some d =>
      rw [hval_cons e] at h
      have r := hd_range e
      obtain ⟨h1, h2⟩ := hval_pos a _ u (by omega) h
      refine ⟨h1, Int.lt_of_lt_of_le h2 ?_⟩
      rw [List.length_cons, Int.pow_succ, Int.mul_comm (16 ^ a.length) 16, ← Int.mul_assoc]
      exact Int.mul_le_mul_of_nonneg_right (by omega) (Int.le_of_lt (Int.pow_pos (by decide)))
theorem floatF_true {l : List Int} (h : (floatF l).2 = true) : ∃ u, IsFlt l u ∧ (floatF l).1 = wrap64 u := by
  by_cases h1 : l.length = 18 ∧ l.getD 0 0 = 48 ∧ l.getD 1 0 = 102
  · cases hv : hval 0 (l.drop 2) with
    | none => rw [floatF_bad h1 hv] at h; cases h
    | some u =>
      rw [floatF_some h1 hv] at h ⊢
      have hp := hval_pos _ 0 u (by omega) hv
      rw [List.length_drop, h1.1] at hp
      obtain ⟨n, rfl⟩ := Int.eq_ofNat_of_zero_le hp.1
      have hn : n < 18446744073709551616 := by have := hp.2; omega
      have hl : (nums8 (hex16 n)).length = (l.drop 2).length := by rw [nums8_length, hex16_len n hn, List.length_drop]; omega
      have he := (hval_inj _ _ 0 0 _ hl (hval_hex16 n) hv).2
      refine ⟨n, ⟨hn, ?_, h⟩, rfl⟩
      rw [flt_eq]
      show l = 48 :: 102 :: nums8 (hex16 n)
      rw [he]
      obtain ⟨hl18, h48, h102⟩ := h1
      match l, hl18, h48, h102 with
      | a :: b :: r, _, h48, h102 =>
        rw [show a = 48 from h48, show b = 102 from h102]
        rfl
  · rw [floatF_no h1] at h; cases h
theorem floatF_of {l : List Int} {u : Nat} (h : IsFlt l u) : floatF l = (wrap64 u, true) := by
  obtain ⟨h0, rfl, h2⟩ := h
  have h1 : (nums8 (flt u)).length = 18 ∧ (nums8 (flt u)).getD 0 0 = 48 ∧ (nums8 (flt u)).getD 1 0 = 102 := by
    refine ⟨?_, flt_head u, ?_⟩
    · rw [nums8_length, flt_eq, List.length_cons, List.length_cons, hex16_len u h0]
    · rw [nums8_getD]; rfl
  have hv : hval 0 ((nums8 (flt u)).drop 2) = some (u : Int) := hval_hex16 u
  rw [floatF_some h1 hv, h2]

end Go.Proofs.YtkkodbbgdndhmaaDoor.LxFnExactLex
