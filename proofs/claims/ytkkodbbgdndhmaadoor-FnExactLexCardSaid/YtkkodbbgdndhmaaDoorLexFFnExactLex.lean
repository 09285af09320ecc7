/- Plain laws of the printed reference: words; the tokens of a text. -/
import Derived.Test.YtkkodbbgdndhmaaDoorLexEFnExactLex
namespace Go.Proofs.YtkkodbbgdndhmaaDoor.LxFnExactLex
open Go.RowKit Go.Proofs.YtkkodbbgdndhmaaDoor.QFnExactLex Go.Proofs.YtkkodbbgdndhmaaDoorW.PrintWords Go.Proofs.YtkkodbbgdndhmaaDoorW.PrintLast Go.Proofs.YtkkodbbgdndhmaaDoor.LexA Go.Proofs.YtkkodbbgdndhmaaDoor.Fw Go.Proofs.YtkkodbbgdndhmaaDoor.Aid
open Go.Proofs.YtkkodbbgdndhmaaDoor.LexBFnExactLex (decL intV)

/-! words -/
section
variable {l : List Int} {gr : Bool} {i : Nat} {P : Bool → Prop}
theorem w_j3 (hi : i < l.length) {a b : Bool} (h : Tells (fun k => spec_l3word.j4 k l gr (i : Int) a b (digitB (l.getD i 0))) P) : Tells (fun k => spec_l3word.j3 k l gr (i : Int) a b) P := by
  refine Tells.step (fun k => by rw [spec_l3word.j3]) (Tells.pos (by omega) (Tells.pos (by omega) ?_))
  rw [rdn]
  unfold digitB at h
  refine Tells.ite (fun h1 => ?_) (fun h1 => ?_)
  · rw [if_pos h1] at h; exact h
  · rw [if_neg h1] at h; exact h
theorem w_j2 (hi : i < l.length) {a : Bool} (h : Tells (fun k => spec_l3word.j4 k l gr (i : Int) a (greatB (l.getD i 0)) (digitB (l.getD i 0))) P) : Tells (fun k => spec_l3word.j2 k l gr (i : Int) a) P := by
  refine Tells.step (fun k => by rw [spec_l3word.j2]) (Tells.pos (by omega) (Tells.pos (by omega) ?_))
  rw [rdn]
  unfold greatB at h
  refine Tells.ite (fun h1 => ?_) (fun h1 => ?_)
  · rw [if_pos h1] at h; exact w_j3 hi h
  · rw [if_neg h1] at h; exact w_j3 hi h
theorem w_l0 (hi : i < l.length) (h : Tells (fun k => spec_l3word.j4 k l gr (i : Int) (smallB (l.getD i 0)) (greatB (l.getD i 0)) (digitB (l.getD i 0))) P) : Tells (fun k => spec_l3word.l0 k l gr (i : Int)) P := by
  refine Tells.step (fun k => by rw [spec_l3word.l0]) (Tells.pos (by omega) (Tells.pos (by omega) ?_))
  rw [rdn]
  unfold smallB at h
  refine Tells.ite (fun h1 => ?_) (fun h1 => ?_)
  · rw [if_pos h1] at h; exact w_j2 hi h
  · rw [if_neg h1] at h; exact w_j2 hi h
end
theorem w_loop (l : List Int) (hl : l.length ≤ 6000) (gr : Bool) (d : Nat) : ∀ i : Nat, 0 < i → i ≤ l.length → l.length - i = d → Tells (fun k => spec_l3word.l0 k l gr (i : Int)) (fun r => r = !(l.drop i).any badB) := by
  induction d with
  | zero =>
    intro i h0 hi hd
    refine Tells.step (fun k => by rw [spec_l3word.l0]) (Tells.neg (by omega) (Tells.now ?_))
    rw [List.drop_eq_nil_of_le (by omega)]; rfl
  | succ d ih =>
    intro i h0 hi hd
    have hlt : i < l.length := by omega
    have ed : l.drop i = l.getD i 0 :: l.drop (i + 1) := by
      rw [List.drop_eq_getElem_cons hlt, List.getD_eq_getElem?_getD, List.getElem?_eq_getElem hlt]; rfl
    rw [ed, List.any_cons]
    refine w_l0 hlt (Tells.step (fun k => by rw [spec_l3word.j4]) (Tells.neg (by omega) (Tells.step (fun k => by rw [spec_l3word.j5]) (Tells.neg (by decide) (Tells.pos (by omega) ?_)))))
    rw [wrap64_id (by omega) (by omega), show (i : Int) + 1 = ((i + 1 : Nat) : Int) from by omega]
    have hn := ih (i + 1) (by omega) (by omega) (by omega)
    generalize (l.drop (i + 1)).any badB = B at hn ⊢
    unfold badB
    refine Tells.ite (fun h1 => ?_) (fun h1 => Tells.ite (fun h2 => ?_) (fun h2 => Tells.now ?_))
    · rw [if_pos h1]; simpa using hn
    · rw [if_neg h1, h2]; simpa using hn
    · rw [if_neg h1, Bool.eq_false_iff.2 h2]; rfl
theorem word_tells (l : List Int) (hl : l.length ≤ 6000) (gr : Bool) : Tells (fun k => spec_l3word.f k l gr) (fun r => r = if gr then greatW l else smallW l) := by
  have hlong : ¬ (1 ≤ l.length ∧ l.length ≤ 8) → (if gr then greatW l else smallW l) = false := by
    intro h
    have ht : tailB l = false := by
      unfold tailB inB
      by_cases h1 : (1 : Int) ≤ (l.length : Int)
      · have h2 : ¬ (l.length : Int) ≤ 8 := by omega
        simp [h1, h2]
      · simp [h1]
    unfold greatW smallW
    rw [ht]
    cases gr <;> rfl
  unfold spec_l3word.f
  refine Tells.ite (fun h => Tells.step (fun k => by rw [spec_l3word.j0]) (Tells.pos rfl (Tells.now (hlong (by omega)).symm))) (fun h => Tells.step (fun k => by rw [spec_l3word.j0]) ?_)
  by_cases h8 : l.length ≤ 8
  · refine Tells.neg (by rw [decide_eq_false (by omega)]; decide) ?_
    have h0 : 0 < l.length := by omega
    have ht : tailB l = !(l.drop 1).any badB := by
      unfold tailB inB
      rw [if_pos (show (1 : Int) ≤ (l.length : Int) by omega), decide_eq_true (show (l.length : Int) ≤ 8 by omega)]; rfl
    have hn := w_loop l hl gr (l.length - 1) 1 (by omega) (by omega) rfl
    have e1 : wrap64 (((0 : Nat) : Int) + 1) = ((1 : Nat) : Int) := wrap64_id (by omega) (by omega)
    refine w_l0 (i := 0) h0 (Tells.step (fun k => by rw [spec_l3word.j4]) (Tells.pos (show ((0 : Nat) : Int) = 0 from rfl) ?_))
    unfold greatW smallW
    rw [ht]
    cases gr with
    | true =>
      refine Tells.pos rfl (Tells.ite (fun h1 => Tells.step (fun k => by rw [spec_l3word.j5]) (Tells.neg (by decide) (Tells.neg (by decide) ?_))) (fun h1 => Tells.step (fun k => by rw [spec_l3word.j5]) (Tells.pos rfl (Tells.now ?_))))
      · rw [h1, e1]
        refine hn.mono fun r hr => ?_
        rw [hr]
        cases (!(l.drop 1).any badB) <;> rfl
      · rw [Bool.eq_false_iff.2 h1]
        cases (!(l.drop 1).any badB) <;> rfl
    | false =>
      refine Tells.neg (by decide) (Tells.step (fun k => by rw [spec_l3word.j5]) ?_)
      by_cases h1 : smallB (l.getD 0 0) = true
      · refine Tells.neg (by rw [h1]; decide) (Tells.neg (by decide) ?_)
        rw [h1, e1]
        refine hn.mono fun r hr => ?_
        rw [hr]
        cases (!(l.drop 1).any badB) <;> rfl
      · refine Tells.pos (by rw [Bool.eq_false_iff.2 h1]; rfl) (Tells.now ?_)
        rw [Bool.eq_false_iff.2 h1]
        cases (!(l.drop 1).any badB) <;> rfl
  · exact Tells.pos (decide_eq_true (by omega)) (Tells.now (hlong (by omega)).symm)

/-! the text -/
theorem getD_drop (l : List Int) (i j : Nat) : (l.drop i).getD j 0 = l.getD (i + j) 0 := by
  rw [List.getD_eq_getElem?_getD, List.getD_eq_getElem?_getD, List.getElem?_drop]
def digs (l : List Int) (i : Nat) : Bool := if digitB (l.getD i 0) then true else if l.getD i 0 = 45 then (if i + 1 < l.length then digitB (l.getD (i + 1) 0) else false) else false
section
variable {l : List Int} {out : List S34} {i : Nat} {P : List S34 × Int → Prop}
theorem s_dig (hl : l.length ≤ 6000) (hi : i < l.length) (h : Tells (fun k => spec_Lex.j2 k l out (i : Int) (l.getD i 0) ((i + 1 : Nat) : Int) (digs l i)) P) : Tells (fun k => spec_Lex.j1 k l out (i : Int) (l.getD i 0) false) P := by
  refine Tells.step (fun k => by rw [spec_Lex.j1]) (Tells.neg (by decide) ?_)
  rw [wrap64_id (by omega) (by omega), show (i : Int) + 1 = ((i + 1 : Nat) : Int) from by omega, rdn]
  unfold digs digitB at h
  have rest : ¬ (48 ≤ l.getD i 0 ∧ l.getD i 0 ≤ 57) → Tells (fun k => if l.getD i 0 = 45 then (if ((i + 1 : Nat) : Int) < (l.length : Int) then (if 0 ≤ ((i + 1 : Nat) : Int) then (if l.getD (i + 1) 0 ≥ 48 then (spec_Lex.j2 k l out (i : Int) (l.getD i 0) ((i + 1 : Nat) : Int) (decide (l.getD (i + 1) 0 ≤ 57))) else (spec_Lex.j2 k l out (i : Int) (l.getD i 0) ((i + 1 : Nat) : Int) false)) else none) else (spec_Lex.j2 k l out (i : Int) (l.getD i 0) ((i + 1 : Nat) : Int) false)) else (spec_Lex.j2 k l out (i : Int) (l.getD i 0) ((i + 1 : Nat) : Int) false)) P := by
    intro hn
    have e : (if 48 ≤ l.getD i 0 then decide (l.getD i 0 ≤ 57) else false) = false := by
      by_cases h1 : 48 ≤ l.getD i 0
      · rw [if_pos h1]; exact decide_eq_false (by omega)
      · rw [if_neg h1]
    rw [e] at h
    simp only [Bool.false_eq_true, if_false] at h
    refine Tells.ite (fun h1 => Tells.ite (fun h2 => Tells.pos (by omega) (Tells.ite (fun h3 => ?_) (fun h3 => ?_))) (fun h2 => ?_)) (fun h1 => ?_)
    · rw [if_pos h1, if_pos (show i + 1 < l.length by omega), if_pos h3] at h; exact h
    · rw [if_pos h1, if_pos (show i + 1 < l.length by omega), if_neg h3] at h; exact h
    · rw [if_pos h1, if_neg (show ¬ i + 1 < l.length by omega)] at h; exact h
    · rw [if_neg h1] at h; exact h
  refine Tells.ite (fun h1 => Tells.ite (fun h2 => ?_) (fun h2 => rest (by omega))) (fun h1 => rest (by omega))
  rw [if_pos h1, decide_eq_true h2, if_pos rfl] at h
  exact h
theorem s_start (hl : l.length ≤ 6000) (hi : i < l.length) (hb : blankB (l.getD i 0) = false) (h : Tells (fun k => spec_Lex.j2 k l out (i : Int) (l.getD i 0) ((i + 1 : Nat) : Int) (digs l i)) P) : Tells (fun k => spec_Lex.l0 k l out (i : Int)) P := by
  unfold blankB at hb
  rw [Bool.or_eq_false_iff] at hb
  refine Tells.step (fun k => by rw [spec_Lex.l0]) (Tells.pos (by omega) (Tells.pos (by omega) ?_))
  rw [rdn]
  refine Tells.neg (of_decide_eq_false hb.1) ?_
  rw [show (l.getD i 0 == 10) = false from by rw [beq_eq_false_iff_ne]; exact of_decide_eq_false hb.2]
  exact s_dig hl hi h
theorem s_blank (hl : l.length ≤ 6000) (hi : i < l.length) (hb : blankB (l.getD i 0) = true) (h : Tells (fun k => spec_Lex.l0 k l out ((i + 1 : Nat) : Int)) P) : Tells (fun k => spec_Lex.l0 k l out (i : Int)) P := by
  unfold blankB at hb
  rw [Bool.or_eq_true] at hb
  have step : Tells (fun k => spec_Lex.j1 k l out (i : Int) (l.getD i 0) true) P := by
    refine Tells.step (fun k => by rw [spec_Lex.j1]) (Tells.pos rfl ?_)
    rw [wrap64_id (by omega) (by omega), show (i : Int) + 1 = ((i + 1 : Nat) : Int) from by omega]
    exact h
  refine Tells.step (fun k => by rw [spec_Lex.l0]) (Tells.pos (by omega) (Tells.pos (by omega) ?_))
  rw [rdn]
  refine Tells.ite (fun h1 => step) (fun h1 => ?_)
  rw [show (l.getD i 0 == 10) = true from by rw [beq_iff_eq]; exact of_decide_eq_true (hb.resolve_left (by rw [decide_eq_false h1]; decide))]
  exact step
theorem s_run (hl : l.length ≤ 6000) (r : Nat) (hr : r ≤ l.length) (hend : r < l.length → innerB (l.getD r 0) = false) (h : Tells (fun k => spec_Lex.j5 k l out (i : Int) (r : Int)) P) (d : Nat) : ∀ j : Nat, j ≤ r → r - j = d → (∀ x, j ≤ x → x < r → innerB (l.getD x 0) = true) → Tells (fun k => spec_Lex.l1 k l out (i : Int) (j : Int)) P := by
  induction d with
  | zero =>
    intro j hj hd hin
    obtain rfl : j = r := by omega
    refine Tells.step (fun k => by rw [spec_Lex.l1]) ?_
    refine Tells.ite (fun h1 => Tells.pos (by omega) ?_) (fun h1 => h)
    rw [rdn, inner_f, hend (by omega)]
    exact h
  | succ d ih =>
    intro j hj hd hin
    refine Tells.step (fun k => by rw [spec_Lex.l1]) (Tells.pos (by omega) (Tells.pos (by omega) ?_))
    rw [rdn, inner_f, hin j (by omega) (by omega), wrap64_id (by omega) (by omega), show (j : Int) + 1 = ((j + 1 : Nat) : Int) from by omega]
    exact ih (j + 1) (by omega) (by omega) (fun x h1 h2 => hin x (by omega) h2)
theorem take_drop (l : List Int) (i n : Nat) : (l.take (i + n)).drop i = (l.drop i).take n := by
  rw [List.drop_take]
  congr 1
  omega
/-- A piece of letters and digits. -/
theorem s_piece (hl : l.length ≤ 6000) (hb : Byt l) (n : Nat) (hn : i + n ≤ l.length) (ho : out.length ≤ 6000)
    (hk : ∀ t, IsPiece ((l.drop i).take n) t → Tells (fun k => spec_Lex.l0 k l (out ++ [⟨t.f0, i, t.f2, t.f3⟩]) ((i + n : Nat) : Int)) P)
    (hno : (∀ t, ¬ IsPiece ((l.drop i).take n) t) → P ([], (i : Int))) : Tells (fun k => spec_Lex.j5 k l out (i : Int) ((i + n : Nat) : Int)) P := by
  refine Tells.step (fun k => by rw [spec_Lex.j5]) ?_
  show Tells (fun k => if 0 ≤ (i : Int) then _ else none) P
  refine Tells.pos (by omega) (Tells.pos (by omega) (Tells.pos (by omega) ?_))
  rw [Int.toNat_natCast, Int.toNat_natCast, take_drop, List.nil_append]
  have hlen : ((l.drop i).take n).length ≤ 6000 := by rw [List.length_take, List.length_drop]; omega
  have hbw : Byt ((l.drop i).take n) := (hb.drop i).take n
  generalize hW : (l.drop i).take n = W at hlen hbw hk hno
  refine Tells.pos (by omega) ?_
  refine Tells.pos (c := ([] : List Int).length + W.length < 140737488355328) (by simp; omega) ?_
  show Tells (fun k => (spec_l3int.f k W).bind fun bt195 => _) P
  refine Tells.bind (int_tells W hbw) fun a ha => ?_
  subst ha
  show Tells (fun k => if (intV W).2 = true then _ else _) P
  by_cases h1 : (intV W).2 = true
  · refine Tells.pos h1 (Tells.pos (by omega) ?_)
    exact hk ⟨2, 0, (intV W).1, []⟩ (.inr (.inl ⟨_, intV_true hbw h1, rfl⟩))
  · refine Tells.neg h1 ?_
    by_cases h2 : (floatF W).2 = true
    · obtain ⟨u, hu, e⟩ := floatF_true h2
      refine Tells.pos h2 (Tells.pos (by omega) ?_)
      rw [e]
      exact hk ⟨3, 0, wrap64 u, []⟩ (.inr (.inr ⟨u, hu, rfl⟩))
    · refine Tells.neg h2 (Tells.bind (word_tells W hlen false) fun a ha => ?_)
      subst ha
      by_cases h3 : smallW W = true
      · refine Tells.pos h3 (Tells.pos (by omega) ?_)
        exact hk ⟨1, 0, 0, W⟩ (.inl ⟨.inl h3, rfl⟩)
      · refine Tells.neg h3 (Tells.bind (word_tells W hlen true) fun a ha => ?_)
        subst ha
        by_cases h4 : greatW W = true
        · refine Tells.pos h4 (Tells.pos (by omega) ?_)
          exact hk ⟨1, 0, 0, W⟩ (.inl ⟨.inr h4, rfl⟩)
        · refine Tells.neg h4 (Tells.now (hno ?_))
          rintro t (⟨h, _⟩ | ⟨m, h, _⟩ | ⟨u, h, _⟩)
          · exact h.elim h3 h4
          · exact h1 (by rw [intV_of h])
          · exact h2 (by rw [floatF_of h])
end

end Go.Proofs.YtkkodbbgdndhmaaDoor.LxFnExactLex
