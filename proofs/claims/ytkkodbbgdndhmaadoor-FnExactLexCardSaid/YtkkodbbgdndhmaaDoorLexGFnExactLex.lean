/- Plain law: the printed reference gives the tokens of a text. -/
import Derived.Test.YtkkodbbgdndhmaaDoorLexFFnExactLex
namespace Go.Proofs.YtkkodbbgdndhmaaDoor.LxFnExactLex
open Go.RowKit Go.Proofs.YtkkodbbgdndhmaaDoor.QFnExactLex Go.Proofs.YtkkodbbgdndhmaaDoorW.PrintWords Go.Proofs.YtkkodbbgdndhmaaDoorW.PrintLast Go.Proofs.YtkkodbbgdndhmaaDoor.LexA Go.Proofs.YtkkodbbgdndhmaaDoor.Fw Go.Proofs.YtkkodbbgdndhmaaDoor.Aid
open Go.Proofs.YtkkodbbgdndhmaaDoor.LexBFnExactLex (decL intV)

theorem digit_inner {y : Int} (h : digitB y = true) : innerB y = true := by
  unfold innerB
  rw [h]
  cases smallB y <;> cases greatB y <;> rfl
theorem lead_le (l : List Int) : lead l ≤ 1 := by unfold lead; split <;> omega
theorem Next.pos {l : List Int} {t : S34} {n : Nat} (h : Next l t n) : 0 < n := by
  rcases h with ⟨r, _, h, rfl, _⟩ | ⟨_, _, rfl, _⟩ | ⟨_, _, _, rfl, _⟩ <;> omega
theorem getD_pos {l : List Int} {i : Nat} {x : Int} (h : l.getD i 0 = x) (hx : x ≠ 0) : i < l.length := by
  by_cases hi : i < l.length
  · exact hi
  · exfalso
    rw [List.getD_eq_getElem?_getD, List.getElem?_eq_none (by omega)] at h
    exact hx h.symm
theorem Next.le {l : List Int} {t : S34} {n : Nat} (hl : 0 < l.length) (h : Next l t n) : n ≤ l.length := by
  rcases h with ⟨r, hr, _, rfl, _⟩ | ⟨_, hd, rfl, _⟩ | ⟨_, _, _, rfl, _⟩
  · exact hr.2.1
  · have := getD_pos hd.2 (by decide); omega
  · omega
section
variable {l : List Int} {out : List S34} {i : Nat} {P : List S34 × Int → Prop}
/-- A run of letters and digits. -/
theorem s_go (hl : l.length ≤ 6000) (hi : i < l.length) (hbl : blankB (l.getD i 0) = false) (r : Nat) (hr : IsRun (l.drop i) r) (h0 : 0 < r)
    (h : Tells (fun k => spec_Lex.j5 k l out (i : Int) ((i + r : Nat) : Int)) P) : Tells (fun k => spec_Lex.l0 k l out (i : Int)) P := by
  obtain ⟨h1, h2, h3, h4⟩ := hr
  rw [List.length_drop] at h2 h4
  have hrun : Tells (fun k => spec_Lex.l1 k l out (i : Int) ((i + 1 : Nat) : Int)) P := by
    refine s_run hl (i + r) (by omega) (fun hlt => ?_) h (i + r - (i + 1)) (i + 1) (by omega) rfl (fun x hx1 hx2 => ?_)
    · have := h4 (by omega)
      rw [getD_drop] at this
      exact this
    · have := h3 (x - i) (by have := lead_le (l.drop i); omega) (by omega)
      rw [getD_drop, show i + (x - i) = x from by omega] at this
      exact this
  refine s_start hl hi hbl (Tells.step (fun k => by rw [spec_Lex.j2]) ?_)
  rw [inner_f]
  show Tells (fun k => if innerB (l.getD i 0) = true then _ else _) P
  refine Tells.ite (fun c => Tells.step (fun k => by rw [spec_Lex.j3]) (Tells.neg (by decide) hrun)) (fun c => Tells.step (fun k => by rw [spec_Lex.j3]) ?_)
  have hd : digs l i = true := by
    by_cases hld : lead (l.drop i) = 1
    · unfold lead at hld
      rw [List.length_drop, getD_drop, getD_drop, Nat.add_zero] at hld
      by_cases hc : l.getD i 0 = 45 ∧ 1 < l.length - i ∧ digitB (l.getD (i + 1) 0) = true
      · unfold digs
        rw [if_pos hc.1, if_pos (show i + 1 < l.length by omega), hc.2.2]
        cases digitB (l.getD i 0) <;> rfl
      · rw [if_neg hc] at hld; cases hld
    · exfalso
      have := h3 0 (by have := lead_le (l.drop i); omega) h0
      rw [getD_drop, Nat.add_zero] at this
      exact c this
  rw [hd]
  exact Tells.neg (by decide) hrun
/-- No run: a sign or nothing. -/
theorem s_stop (hl : l.length ≤ 6000) (hi : i < l.length) (hbl : blankB (l.getD i 0) = false) (hr : IsRun (l.drop i) 0) (ho : out.length ≤ 6000)
    (h1 : Dbl (l.drop i) → Tells (fun k => spec_Lex.l0 k l (out ++ [⟨4, i, 0, [61, 61]⟩]) ((i + 2 : Nat) : Int)) P)
    (h2 : ¬ Dbl (l.drop i) → l.getD i 0 ∈ signs → Tells (fun k => spec_Lex.l0 k l (out ++ [⟨4, i, 0, [l.getD i 0]⟩]) ((i + 1 : Nat) : Int)) P)
    (h3 : ¬ l.getD i 0 ∈ signs → P ([], (i : Int))) : Tells (fun k => spec_Lex.l0 k l out (i : Int)) P := by
  obtain ⟨r1, r2, r3, r4⟩ := hr
  rw [List.length_drop] at r2 r4
  have hin : innerB (l.getD i 0) = false := by
    have := r4 (by omega)
    rw [getD_drop, Nat.add_zero] at this
    exact this
  have hdg : digs l i = false := by
    unfold digs
    rw [show digitB (l.getD i 0) = false from Bool.eq_false_iff.2 (fun c => by rw [digit_inner c] at hin; cases hin)]
    simp only [Bool.false_eq_true, if_false]
    by_cases c1 : l.getD i 0 = 45
    · rw [if_pos c1]
      by_cases c2 : i + 1 < l.length
      · rw [if_pos c2]
        refine Bool.eq_false_iff.2 (fun c3 => ?_)
        unfold lead at r1
        rw [List.length_drop, getD_drop, getD_drop, Nat.add_zero, if_pos ⟨c1, by omega, c3⟩] at r1
        omega
      · rw [if_neg c2]
    · rw [if_neg c1]
  refine s_start hl hi hbl (Tells.step (fun k => by rw [spec_Lex.j2]) ?_)
  rw [inner_f, hin]
  refine Tells.congr (f := fun k => spec_Lex.j3 k l out (i : Int) (l.getD i 0) ((i + 1 : Nat) : Int) (!digs l i)) (fun k => rfl) ?_
  refine (Tells.step (fun k => by rw [spec_Lex.j3]) (Tells.pos (by rw [hdg]; rfl) ?_))
  have e1 : (l.take (i + 1)).drop i = [l.getD i 0] := by
    rw [take_drop, List.drop_eq_getElem_cons hi, List.getD_eq_getElem?_getD, List.getElem?_eq_getElem hi]; rfl
  have one : ¬ Dbl (l.drop i) → l.getD i 0 ∈ signs → Tells (fun k => if 0 ≤ (i : Int) then (if (i : Int) ≤ ((i + 1 : Nat) : Int) then (if ((i + 1 : Nat) : Int) ≤ (l.length : Int) then (if ([] : List Int).length + ((l.take (((i + 1 : Nat) : Int)).toNat).drop (i : Int).toNat).length < 140737488355328 then (if out.length < 2932031007402 then (spec_Lex.l0 k l (out ++ [(⟨4, (i : Int), 0, ([] ++ ((l.take (((i + 1 : Nat) : Int)).toNat).drop (i : Int).toNat))⟩ : S34)]) ((i + 1 : Nat) : Int)) else none) else none) else none) else none) else none) P := by
    intro a b
    rw [Int.toNat_natCast, Int.toNat_natCast, e1, List.nil_append]
    exact Tells.pos (by omega) (Tells.pos (by omega) (Tells.pos (by omega) (Tells.pos (by simp) (Tells.pos (by omega) (h2 a b)))))
  show Tells (fun k => if decide (l.getD i 0 ∈ signs) = true then _ else _) P
  refine Tells.ite (fun c => ?_) (fun c => Tells.now (h3 (fun d => c (decide_eq_true d))))
  have hs := of_decide_eq_true c
  refine Tells.ite (fun c1 => Tells.ite (fun c2 => Tells.pos (by omega) (Tells.ite (fun c3 => ?_) (fun c3 => ?_))) (fun c2 => ?_)) (fun c1 => ?_)
  · rw [rdn] at c3
    have hD : Dbl (l.drop i) := ⟨by rw [getD_drop, Nat.add_zero]; exact c1, by rw [getD_drop]; exact c3⟩
    have e2 : (l.take (i + 2)).drop i = [61, 61] := by
      rw [take_drop, List.drop_eq_getElem_cons hi, List.drop_eq_getElem_cons (show i + 1 < l.length by omega)]
      have q1 : l.getD i 0 = l[i] := by rw [List.getD_eq_getElem?_getD, List.getElem?_eq_getElem hi]; rfl
      have q2 : l.getD (i + 1) 0 = l[i + 1] := by rw [List.getD_eq_getElem?_getD, List.getElem?_eq_getElem (show i + 1 < l.length by omega)]; rfl
      rw [← q1, ← q2, c1, c3]; rfl
    rw [wrap64_id (by omega) (by omega), show ((i + 1 : Nat) : Int) + 1 = ((i + 2 : Nat) : Int) from by omega, Int.toNat_natCast, Int.toNat_natCast, e2]
    show Tells (fun k => if 0 ≤ (i : Int) then _ else none) P
    exact Tells.pos (by omega) (Tells.pos (by omega) (Tells.pos (by omega) (Tells.pos (by omega) (Tells.pos (by decide) (Tells.pos (by omega) (h1 hD))))))
  · exact one (fun d => c3 (by rw [rdn]; have := d.2; rw [getD_drop] at this; exact this)) hs
  · exact one (fun d => by have := d.2; rw [getD_drop] at this; have := getD_pos this (by decide); omega) hs
  · exact one (fun d => by have := d.1; rw [getD_drop, Nat.add_zero] at this; exact c1 this) hs
end
theorem lexed_tells {l : List Int} (hl : l.length ≤ 6000) (hb : Byt l) {i : Nat} {out r : List S34} {c : Int} (h : Lexed l i out r c) : i ≤ l.length → out.length ≤ i → Tells (fun k => spec_Lex.l0 k l out (i : Int)) (fun y => y = (r, c)) := by
  induction h with
  | done i out h =>
    intro hi ho
    exact Tells.step (fun k => by rw [spec_Lex.l0]) (Tells.neg (by omega) (Tells.now rfl))
  | blank i out r c h hbl k ih =>
    intro hi ho
    exact s_blank hl h hbl (ih (by omega) (by omega))
  | tok i n t out r c h hbl hn k ih =>
    intro hi ho
    have hpos := hn.pos
    have hle := hn.le (by rw [List.length_drop]; omega)
    rw [List.length_drop] at hle
    have hnext := ih (by omega) (by simp; omega)
    rcases hn with ⟨q, hr, h0, rfl, hp⟩ | ⟨hr, hd, rfl, rfl⟩ | ⟨hr, hd, hs, rfl, rfl⟩
    · refine s_go hl h hbl n hr h0 (s_piece hl hb n (by omega) (by omega) (fun t' ht' => ?_) (fun hno => absurd hp (hno t)))
      rw [piece_one ht' hp]
      exact hnext
    · exact s_stop hl h hbl hr (by omega) (fun _ => hnext) (fun a => absurd hd a) (fun a => absurd (show l.getD i 0 ∈ signs from by have := hd.1; rw [getD_drop, Nat.add_zero] at this; rw [this]; decide) a)
    · rw [getD_drop, Nat.add_zero] at hs hnext
      exact s_stop hl h hbl hr (by omega) (fun a => absurd a hd) (fun _ _ => hnext) (fun a => absurd hs a)
  | bad i out h hbl hn =>
    intro hi ho
    rcases hn with ⟨q, hr, h0, hp⟩ | ⟨hr, hd, hs⟩
    · have hle := hr.2.1
      rw [List.length_drop] at hle
      exact s_go hl h hbl q hr h0 (s_piece hl hb q (by omega) (by omega) (fun t' ht' => absurd ht' (hp t')) (fun _ => rfl))
    · rw [getD_drop, Nat.add_zero] at hs
      exact s_stop hl h hbl hr (by omega) (fun a => absurd a hd) (fun _ a => absurd a hs) (fun _ => rfl)
theorem lex_tells {l : List Int} (hb : Byt l) {r : List S34} {c : Int} (h : LexOf l r c) : Tells (fun k => spec_Lex.f k l) (fun y => y = (r, c)) := by
  unfold spec_Lex.f
  rcases h with ⟨h1, rfl, rfl⟩ | ⟨h1, h2⟩
  · exact Tells.pos (by omega) (Tells.now rfl)
  · have h := lexed_tells h1 hb h2 (Nat.zero_le _) (Nat.le_refl _)
    exact Tells.neg (by omega) h

/-- Tokens are not many, nor their texts long. -/
theorem piece_text {l : List Int} {t : S34} (h : IsPiece l t) : t.f3.length ≤ l.length := by
  rcases h with ⟨_, rfl⟩ | ⟨_, _, rfl⟩ | ⟨_, _, rfl⟩
  · exact Nat.le_refl _
  · exact Nat.zero_le _
  · exact Nat.zero_le _
theorem lexed_short {l : List Int} (hl : l.length ≤ 6000) {i : Nat} {out r : List S34} {c : Int} (h : Lexed l i out r c) : i ≤ l.length → out.length ≤ i → (∀ t ∈ out, t.f3.length ≤ 6000) → r.length ≤ 6000 ∧ ∀ t ∈ r, t.f3.length ≤ 6000 := by
  induction h with
  | done i out h => exact fun hi ho hs => ⟨by omega, hs⟩
  | blank i out r c h hbl k ih => exact fun hi ho hs => ih (by omega) (by omega) hs
  | tok i n t out r c h hbl hn k ih =>
    intro hi ho hs
    have hpos := hn.pos
    have hle := hn.le (by rw [List.length_drop]; omega)
    rw [List.length_drop] at hle
    refine ih (by omega) (by simp; omega) (fun t' ht' => ?_)
    rcases List.mem_append.1 ht' with ht' | ht'
    · exact hs t' ht'
    · rw [List.mem_singleton.1 ht']
      show t.f3.length ≤ 6000
      rcases hn with ⟨q, hr, h0, rfl, hp⟩ | ⟨hr, hd, rfl, rfl⟩ | ⟨hr, hd, hs, rfl, rfl⟩
      · have := piece_text hp
        rw [List.length_take, List.length_drop] at this
        omega
      · show (2 : Nat) ≤ 6000; omega
      · show (1 : Nat) ≤ 6000; omega
  | bad i out h hbl hn => exact fun _ _ _ => ⟨Nat.zero_le _, fun t ht => by cases ht⟩
theorem LexOf.short {l : List Int} {r : List S34} {c : Int} (h : LexOf l r c) : r.length ≤ 6000 ∧ ∀ t ∈ r, t.f3.length ≤ 6000 := by
  rcases h with ⟨_, rfl, _⟩ | ⟨h1, h2⟩
  · exact ⟨Nat.zero_le _, fun t ht => by cases ht⟩
  · exact lexed_short h1 h2 (Nat.zero_le _) (Nat.le_refl _) (fun t ht => by cases ht)

end Go.Proofs.YtkkodbbgdndhmaaDoor.LxFnExactLex
