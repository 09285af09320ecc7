/- Plain law: what both readers read. -/
import Derived.Test.YtkfeoilnhpfknaaRdjFnExactImageRead
import Derived.Lib.Bytes
namespace Go.Proofs.Ytkfeoilnhpfknaa.ImFnExactImageRead
set_option linter.unusedVariables false
open Go.RowKit Go.Proofs.Ytkfeoilnhpfknaa.QFnExactImageRead Go.Proofs.YtkfeoilnhpfknaaW.PrintWords Go.Proofs.YtkfeoilnhpfknaaW.PrintLast

/-! ### The specification's readers -/
def svB (s : RSt) : Bool := rd s.1 0 == 1
def srB (s : RSt) : RSt := if s.2 = true ∨ s.1.length < 1 ∨ 1 < rd s.1 0 then ([], true) else (s.1.drop 1, false)
def svStruct (s : RSt) : List Bool := vMany svB srB (svNum 5 s).toNat (srNum 5 s)
def srStruct (s : RSt) : RSt := rMany srB (svNum 5 s).toNat (srNum 5 s)
def svMap (s : RSt) : S72 := ⟨svNum 6000 s, vMany (svNum 1000) (srNum 1000) (svNum 1000 (srNum 6000 s)).toNat (srNum 1000 (srNum 6000 s))⟩
def srMap (s : RSt) : RSt := rMany (srNum 1000) (svNum 1000 (srNum 6000 s)).toNat (srNum 1000 (srNum 6000 s))
def c2 (s : RSt) : RSt := srNum 4 (srNum 1000 s)
def c4 (s : RSt) : RSt := srNum 6000 (srNum 6000 (c2 s))
def cIns (s : RSt) : RSt := rMany srIns (svNum 6000 (c2 s)).toNat (c4 s)
def svCode (s : RSt) : S53 := ⟨svNum 1000 s, svNum 4 (srNum 1000 s), vMany svIns srIns (svNum 6000 (c2 s)).toNat (c4 s), vMany svMap srMap (svNum 6000 (srNum 6000 (c2 s))).toNat (cIns s)⟩
def srCode (s : RSt) : RSt := rMany srMap (svNum 6000 (srNum 6000 (c2 s))).toNat (cIns s)
def t3 (s : RSt) : RSt := srNum 8 (srNum 8 (srNum 6 s))
def tStructs (s : RSt) : List (List Bool) := vMany svStruct srStruct (svNum 6 s).toNat (t3 s)
def tS (s : RSt) : RSt := rMany srStruct (svNum 6 s).toNat (t3 s)
def tCodes (s : RSt) : List S53 := vMany svCode srCode (svNum 8 (srNum 6 s)).toNat (tS s)
def tC (s : RSt) : RSt := rMany srCode (svNum 8 (srNum 6 s)).toNat (tS s)
def tMain (s : RSt) : Int := svNum 8 (srNum 8 (srNum 6 s))

/-! ### Bytes -/
theorem Byt.app {a b : List Int} (h : Byt a) (k : Byt b) : Byt (a ++ b) := fun x hx => by
  rcases List.mem_append.1 hx with hx | hx
  · exact h x hx
  · exact k x hx
theorem Byt.right {a b : List Int} (h : Byt (a ++ b)) : Byt b := fun x hx => h x (List.mem_append_right _ hx)
theorem byt_low (n : Int) (i : Nat) : Byt (lowB n i) := by
  induction i with
  | zero => intro x hx; cases hx
  | succ i ih =>
    rw [lowB]
    refine ih.app fun x hx => ?_
    rw [List.mem_singleton.1 hx]
    exact mod_b _
theorem byt_nil : Byt [] := fun x hx => by cases hx
theorem list2 (l : List Int) (h : 2 ≤ l.length) : l = [rd l 0, rd l 1] ++ l.drop 2 := by
  obtain ⟨a, l, rfl⟩ : ∃ a t, l = a :: t := by cases l with | nil => simp at h | cons a t => exact ⟨a, t, rfl⟩
  obtain ⟨b, l, rfl⟩ : ∃ a t, l = a :: t := by cases l with | nil => simp at h | cons a t => exact ⟨a, t, rfl⟩
  rfl
theorem list1 (l : List Int) (h : 1 ≤ l.length) : l = [rd l 0] ++ l.drop 1 := by
  obtain ⟨a, l, rfl⟩ : ∃ a t, l = a :: t := by cases l with | nil => simp at h | cons a t => exact ⟨a, t, rfl⟩
  rfl
theorem list4 (l : List Int) (h : 4 ≤ l.length) : l = [rd l 0, rd l 1, rd l 2, rd l 3] ++ l.drop 4 := by
  obtain ⟨a, l, rfl⟩ : ∃ a t, l = a :: t := by cases l with | nil => simp at h | cons a t => exact ⟨a, t, rfl⟩
  obtain ⟨b, l, rfl⟩ : ∃ a t, l = a :: t := by cases l with | nil => simp at h | cons a t => exact ⟨a, t, rfl⟩
  obtain ⟨c, l, rfl⟩ : ∃ a t, l = a :: t := by cases l with | nil => simp at h | cons a t => exact ⟨a, t, rfl⟩
  obtain ⟨d, l, rfl⟩ : ∃ a t, l = a :: t := by cases l with | nil => simp at h | cons a t => exact ⟨a, t, rfl⟩
  rfl

/-! ### Reading is listing backwards -/
/-- Behind a reading without a fault: what was read, listed, stood there. -/
def Sound {α : Type} (v : RSt → α) (r : RSt → RSt) (e : α → List Int) (P : α → Prop) : Prop := ∀ s, Byt s.1 → (r s).2 = false → s.2 = false ∧ s.1 = e (v s) ++ (r s).1 ∧ P (v s)
/-- What has been listed is read. -/
def Full {α : Type} (v : RSt → α) (r : RSt → RSt) (e : α → List Int) (P : α → Prop) : Prop := ∀ x rest, Byt rest → P x → v (e x ++ rest, false) = x ∧ r (e x ++ rest, false) = (rest, false) ∧ Byt (e x)
theorem Sound.byt {α : Type} {v : RSt → α} {r : RSt → RSt} {e : α → List Int} {P : α → Prop} (h : Sound v r e P) {s : RSt} (hb : Byt s.1) (hr : (r s).2 = false) : Byt (r s).1 := by
  have := (h s hb hr).2.1
  rw [this] at hb
  exact hb.right
theorem many_sound {α : Type} {v : RSt → α} {r : RSt → RSt} {e : α → List Int} {P : α → Prop} (h : Sound v r e P) (n : Nat) : Sound (vMany v r n) (rMany r n) (fun l => l.flatMap e) (fun l => l.length = n ∧ ∀ x ∈ l, P x) := by
  induction n with
  | zero => intro s hb hs; exact ⟨hs, rfl, rfl, fun x hx => by cases hx⟩
  | succ n ih =>
    intro s hb hs
    rw [rMany] at hs
    by_cases c : s.2 = true
    · rw [if_pos c, c] at hs; cases hs
    · rw [if_neg c] at hs
      have hr : (r s).2 = false := by
        by_cases d : (r s).2 = true
        · rw [rMany_bad r n d, d] at hs; cases hs
        · simpa using d
      obtain ⟨h1, h2, h3⟩ := h s hb hr
      obtain ⟨k1, k2, k3, k4⟩ := ih (r s) (h.byt hb hr) hs
      refine ⟨h1, ?_, ?_, ?_⟩
      · rw [vMany, rMany, if_neg c, if_neg c]
        show s.1 = (v s :: vMany v r n (r s)).flatMap e ++ _
        rw [List.flatMap_cons, List.append_assoc, ← k2]
        exact h2
      · rw [vMany, if_neg c, List.length_cons, k3]
      · rw [vMany, if_neg c]
        intro x hx
        rcases List.mem_cons.1 hx with rfl | hx
        · exact h3
        · exact k4 x hx
theorem many_full {α : Type} {v : RSt → α} {r : RSt → RSt} {e : α → List Int} {P : α → Prop} (h : Full v r e P) : ∀ n, Full (vMany v r n) (rMany r n) (fun l => l.flatMap e) (fun l => l.length = n ∧ ∀ x ∈ l, P x) := by
  intro n l
  induction l generalizing n with
  | nil =>
    intro rest hb hl
    obtain ⟨rfl, _⟩ := hl
    exact ⟨rfl, rfl, byt_nil⟩
  | cons x l ih =>
    intro rest hb hl
    obtain ⟨hn, hP⟩ := hl
    obtain ⟨n, rfl⟩ : ∃ m, n = m + 1 := ⟨n - 1, by rw [List.length_cons] at hn; omega⟩
    have hk := ih n rest hb ⟨by rw [List.length_cons] at hn; omega, fun y hy => hP y (List.mem_cons_of_mem _ hy)⟩
    obtain ⟨k1, k2, k3⟩ := hk
    obtain ⟨h1, h2, h3⟩ := h x (l.flatMap e ++ rest) (k3.app hb) (hP x (List.mem_cons_self ..))
    have e1 : (x :: l).flatMap e ++ rest = e x ++ (l.flatMap e ++ rest) := by rw [List.flatMap_cons, List.append_assoc]
    simp only [e1]
    have hn2 : ¬ ((e x ++ (l.flatMap e ++ rest), false) : RSt).2 = true := fun h => Bool.noConfusion h
    refine ⟨?_, ?_, ?_⟩
    · rw [vMany, if_neg hn2, h1, h2, k1]
    · rw [rMany, if_neg hn2, h2, k2]
    · rw [List.flatMap_cons]; exact h3.app k3
/-! #### numbers -/
theorem two_low (n : Int) (rest : List Int) (h : 0 ≤ n ∧ n ≤ 65535) : two (lowB n 2 ++ rest) = n := by
  show n % 256 + 256 * (n / 256 % 256) = n
  omega
theorem low_two {l : List Int} (h : Byt l) : lowB (two l) 2 = [rd l 0, rd l 1] := by
  have h0 := h.rd 0
  have h1 := h.rd 1
  rw [low_2]
  have e0 : two l % 256 = rd l 0 := by unfold two; omega
  have e1 : two l / 256 % 256 = rd l 1 := by unfold two; omega
  rw [e0, e1]
def PN (most n : Int) : Prop := 0 ≤ n ∧ n ≤ most
theorem num_sound (most : Int) : Sound (svNum most) (srNum most) (fun n => lowB n 2) (PN most) := by
  intro s hb hs
  unfold srNum at hs
  by_cases c : s.2 = true ∨ s.1.length < 2 ∨ most < two s.1
  · rw [if_pos c] at hs; cases hs
  · have hr := two_range hb
    have e1 : svNum most s = two s.1 := by unfold svNum; rw [if_neg c]
    have e2 : srNum most s = (s.1.drop 2, false) := by unfold srNum; rw [if_neg c]
    rw [e1, e2]
    have hl : ¬ s.1.length < 2 := fun h => c (.inr (.inl h))
    have hm : ¬ most < two s.1 := fun h => c (.inr (.inr h))
    refine ⟨by simpa using fun h => c (.inl h), ?_, hr.1, by omega⟩
    show s.1 = lowB (two s.1) 2 ++ s.1.drop 2
    rw [low_two hb]
    exact list2 s.1 (by omega)
theorem num_full (most : Int) (hm : most ≤ 65535) : Full (svNum most) (srNum most) (fun n => lowB n 2) (PN most) := by
  intro n rest hb hP
  have e := two_low n rest ⟨hP.1, Int.le_trans hP.2 hm⟩
  have hn : ¬ (((lowB n 2 ++ rest, false) : RSt).2 = true ∨ ((lowB n 2 ++ rest, false) : RSt).1.length < 2 ∨ most < two ((lowB n 2 ++ rest, false) : RSt).1) := by
    rintro (h | h | h)
    · cases h
    · simp only [List.length_append, lowB_len] at h; omega
    · simp only [e] at h
      have := hP.2
      omega
  refine ⟨?_, ?_, byt_low n 2⟩
  · unfold svNum; rw [if_neg hn]; exact e
  · unfold srNum; rw [if_neg hn]; rfl
theorem numI_full : Full (fun s => numV 2 s.1) (rNum 2) (fun n => lowB n 2) (PN 65535) := by
  intro n rest hb hP
  have hl : 2 ≤ (lowB n 2 ++ rest).length := by rw [List.length_append, lowB_len]; omega
  refine ⟨?_, ?_, byt_low n 2⟩
  · show numV 2 (lowB n 2 ++ rest) = n
    rw [numV_2 ((byt_low n 2).app hb) hl, two_low n rest hP]
  · show (numR 2 (lowB n 2 ++ rest), numF 2 (lowB n 2 ++ rest) false) = (rest, false)
    unfold numR numF
    rw [if_neg (by omega), if_neg (by omega)]
    rfl
/-! #### truths -/
theorem bool_sound : Sound svB srB (fun b => [boolI b]) (fun _ => True) := by
  intro s hb hs
  unfold srB at hs
  by_cases c : s.2 = true ∨ s.1.length < 1 ∨ 1 < rd s.1 0
  · rw [if_pos c] at hs; cases hs
  · have hr := hb.rd 0
    have e2 : srB s = (s.1.drop 1, false) := by unfold srB; rw [if_neg c]
    rw [e2]
    have hl : ¬ s.1.length < 1 := fun h => c (.inr (.inl h))
    have hm : ¬ 1 < rd s.1 0 := fun h => c (.inr (.inr h))
    refine ⟨by simpa using fun h => c (.inl h), ?_, trivial⟩
    have e : boolI (svB s) = rd s.1 0 := by
      unfold svB boolI
      by_cases z : rd s.1 0 = 1
      · rw [z]; rfl
      · have : rd s.1 0 = 0 := by omega
        rw [this]; rfl
    show s.1 = [boolI (svB s)] ++ s.1.drop 1
    rw [e]
    exact list1 s.1 (by omega)
theorem byt_bool (b : Bool) : Byt [boolI b] := fun x hx => by
  rw [List.mem_singleton.1 hx]
  cases b <;> exact ⟨by decide, by decide⟩
theorem bool_full : Full svB srB (fun b => [boolI b]) (fun _ => True) := by
  intro b rest hb _
  refine ⟨?_, ?_, byt_bool b⟩
  · cases b <;> rfl
  · have hn : ¬ ((([boolI b] ++ rest, false) : RSt).2 = true ∨ (([boolI b] ++ rest, false) : RSt).1.length < 1 ∨ 1 < rd (([boolI b] ++ rest, false) : RSt).1 0) := by
      rintro (h | h | h)
      · cases h
      · simp only [List.length_append, List.length_singleton] at h; omega
      · have e : rd ([boolI b] ++ rest) 0 = boolI b := rfl
        simp only [e] at h
        cases b <;> exact absurd h (by decide)
    unfold srB
    rw [if_neg hn]
    rfl
theorem boolI_full : Full vBool (rNum 1) (fun b => [boolI b]) (fun _ => True) := by
  intro b rest hb _
  have hl : 1 ≤ ([boolI b] ++ rest).length := by rw [List.length_append, List.length_singleton]; omega
  refine ⟨?_, ?_, byt_bool b⟩
  · show (numV 1 ([boolI b] ++ rest) == 1) = b
    rw [numV_1 ((byt_bool b).app hb) hl]
    cases b <;> rfl
  · show (numR 1 ([boolI b] ++ rest), numF 1 ([boolI b] ++ rest) false) = (rest, false)
    unfold numR numF
    rw [if_neg (by omega), if_neg (by omega)]
    rfl
/-! #### instructions -/
def PI (x : S68) : Prop := PN 255 x.f0 ∧ PN 255 x.f1 ∧ PN 255 x.f2 ∧ PN 255 x.f3 ∧ -9223372036854775808 ≤ x.f4 ∧ x.f4 ≤ 9223372036854775807
theorem ins_eq {x : S68} (h : PI x) : insB x = [x.f0, x.f1, x.f2, x.f3] ++ lowB x.f4 8 := by
  obtain ⟨h0, h1, h2, h3, _⟩ := h
  unfold insB
  unfold PN at h0 h1 h2 h3
  rw [show x.f0 % 256 = x.f0 from by omega, show x.f1 % 256 = x.f1 from by omega, show x.f2 % 256 = x.f2 from by omega, show x.f3 % 256 = x.f3 from by omega]
theorem byt_ins (x : S68) : Byt (insB x) := by
  unfold insB
  refine Byt.app (fun y hy => ?_) (byt_low _ _)
  simp only [List.mem_cons, List.not_mem_nil, or_false] at hy
  rcases hy with rfl | rfl | rfl | rfl <;> exact mod_b _
theorem wrap_range (x : Int) : -9223372036854775808 ≤ wrap64 x ∧ wrap64 x ≤ 9223372036854775807 := by unfold wrap64; omega
theorem ins_sound : Sound svIns srIns insB PI := by
  intro s hb hs
  unfold srIns at hs
  by_cases c : s.2 = true ∨ s.1.length < 12
  · rw [if_pos c] at hs; cases hs
  · have e1 : svIns s = ⟨rd s.1 0, rd s.1 1, rd s.1 2, rd s.1 3, wrap64 (upTo s.1 8)⟩ := by unfold svIns; rw [if_neg c]
    have e2 : srIns s = (s.1.drop 12, false) := by unfold srIns; rw [if_neg c]
    have hl : ¬ s.1.length < 12 := fun h => c (.inr h)
    have hd : Byt (s.1.drop 4) := by
      have h := hb
      rw [← List.take_append_drop 4 s.1] at h
      exact h.right
    have hP : PI (svIns s) := by
      rw [e1]
      exact ⟨hb.rd 0, hb.rd 1, hb.rd 2, hb.rd 3, wrap_range _⟩
    refine ⟨by simpa using fun h => c (.inl h), ?_, hP⟩
    rw [ins_eq hP, e1, e2, upTo_8 hb, low_of hd]
    show s.1 = [rd s.1 0, rd s.1 1, rd s.1 2, rd s.1 3] ++ _ ++ s.1.drop 12
    have h4 := list4 s.1 (by omega)
    have h8 := list8 (s.1.drop 4) (by rw [List.length_drop]; omega)
    rw [List.drop_drop] at h8
    rw [List.append_assoc, show s.1.drop 12 = s.1.drop (4 + 8) from rfl, ← h8]
    exact h4
theorem ins_full : Full svIns srIns insB PI := by
  intro x rest hb hP
  have hl : (insB x ++ rest).length = 12 + rest.length := by
    rw [List.length_append]
    unfold insB
    rw [List.length_append, lowB_len]
    rfl
  have hn : ¬ (((insB x ++ rest, false) : RSt).2 = true ∨ ((insB x ++ rest, false) : RSt).1.length < 12) := by
    rintro (h | h)
    · cases h
    · simp only [hl] at h; omega
  have hB : Byt (insB x ++ rest) := (byt_ins x).app hb
  have e := ins_eq hP
  refine ⟨?_, ?_, byt_ins x⟩
  · unfold svIns
    rw [if_neg hn, upTo_8 hB]
    show (⟨rd (insB x ++ rest) 0, rd (insB x ++ rest) 1, rd (insB x ++ rest) 2, rd (insB x ++ rest) 3, wrap64 (vv ((insB x ++ rest).drop 4) 8)⟩ : S68) = x
    rw [e]
    have h4 : ([x.f0, x.f1, x.f2, x.f3] ++ lowB x.f4 8 ++ rest).drop 4 = lowB x.f4 8 ++ rest := rfl
    rw [h4, low_back x.f4 rest ((byt_low _ _).app hb) hP.2.2.2.2]
    rfl
  · unfold srIns
    rw [if_neg hn]
    rfl
theorem numR_le {m : Nat} {l : List Int} (h : m ≤ l.length) : numR m l = l.drop m ∧ ∀ b, numF m l b = b := by
  unfold numR numF
  rw [if_neg (by omega)]
  exact ⟨rfl, fun b => if_neg (by omega)⟩
theorem insI_full : Full vIns rIns insB PI := by
  intro x rest hb hP
  have e := ins_eq hP
  have hB : Byt (insB x ++ rest) := (byt_ins x).app hb
  refine ⟨?_, ?_, byt_ins x⟩
  all_goals
    rw [e] at hB ⊢
    obtain ⟨f0, f1, f2, f3, f4⟩ := x
    simp only at hB hP ⊢
    have r0 := numR_le (m := 1) (l := [f0, f1, f2, f3] ++ lowB f4 8 ++ rest) (by simp)
    have r1 := numR_le (m := 1) (l := [f1, f2, f3] ++ lowB f4 8 ++ rest) (by simp)
    have r2 := numR_le (m := 1) (l := [f2, f3] ++ lowB f4 8 ++ rest) (by simp)
    have r3 := numR_le (m := 1) (l := [f3] ++ lowB f4 8 ++ rest) (by simp)
    have r4 := numR_le (m := 8) (l := lowB f4 8 ++ rest) (by rw [List.length_append, lowB_len]; omega)
    have b1 : Byt ([f1, f2, f3] ++ lowB f4 8 ++ rest) := hB.right (a := [f0])
    have b2 : Byt ([f2, f3] ++ lowB f4 8 ++ rest) := b1.right (a := [f1])
    have b3 : Byt ([f3] ++ lowB f4 8 ++ rest) := b2.right (a := [f2])
    have b4 : Byt (lowB f4 8 ++ rest) := b3.right (a := [f3])
    have s0 : rNum 1 ([f0, f1, f2, f3] ++ lowB f4 8 ++ rest, false) = ([f1, f2, f3] ++ lowB f4 8 ++ rest, false) := by unfold rNum; rw [r0.1, r0.2]; rfl
    have s1 : rNum 1 ([f1, f2, f3] ++ lowB f4 8 ++ rest, false) = ([f2, f3] ++ lowB f4 8 ++ rest, false) := by unfold rNum; rw [r1.1, r1.2]; rfl
    have s2 : rNum 1 ([f2, f3] ++ lowB f4 8 ++ rest, false) = ([f3] ++ lowB f4 8 ++ rest, false) := by unfold rNum; rw [r2.1, r2.2]; rfl
    have s3 : rNum 1 ([f3] ++ lowB f4 8 ++ rest, false) = (lowB f4 8 ++ rest, false) := by unfold rNum; rw [r3.1, r3.2]; rfl
    have s4 : rNum 8 (lowB f4 8 ++ rest, false) = (rest, false) := by unfold rNum; rw [r4.1, r4.2]; rfl
  · unfold vIns
    rw [s0, s1, s2, s3]
    simp only
    rw [numV_1 hB (by simp), numV_1 b1 (by simp), numV_1 b2 (by simp), numV_1 b3 (by simp), numV_8 b4 (by rw [List.length_append, lowB_len]; omega), low_back f4 rest b4 hP.2.2.2.2]
    rfl
  · unfold rIns
    rw [s0, s1, s2, s3, s4]

end Go.Proofs.Ytkfeoilnhpfknaa.ImFnExactImageRead
