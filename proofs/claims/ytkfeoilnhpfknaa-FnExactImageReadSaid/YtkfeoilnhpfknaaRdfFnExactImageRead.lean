/- What has been read without a fault takes no more bytes than there were. -/
import Derived.Test.YtkfeoilnhpfknaaRddFnExactImageRead
import Derived.Test.YtkfeoilnhpfknaaQFnExactImageReadx7
section
namespace Go.Proofs.Ytkfeoilnhpfknaa.ImFnExactImageRead
open Go.RowKit Go.Proofs.Ytkfeoilnhpfknaa.QFnExactImageRead Go.Proofs.YtkfeoilnhpfknaaW.PrintWords Go.Proofs.YtkfeoilnhpfknaaW.PrintLast
set_option linter.unusedSimpArgs false

set_option maxHeartbeats 8000000 in
set_option maxRecDepth 100000 in
theorem prefix_c (A0 : Option Addr) (c0 : Nat) (l0 : List Int) (A1 : Option Addr) (c1 : Nat) (l1 : List Int) (w : World) (hr0 : Kd.C (Kd.int .u8) w A0 l0.length l0) (hc0 : l0.length ≤ c0) (hr1 : Kd.C (Kd.int .u8) w A1 l1.length l1) (hc1 : l1.length ≤ c1) :
    Calls Try.prog 38 #[.slice A0 l0.length c0, .slice A1 l1.length c1] w fun e w' => e = .returned (.bool (decide (l1.length ≤ l0.length) && ((strOfNums (l0.take l1.length)).toList == (strOfNums l1).toList))) ∧ Drawn0 w w' := by
  have HR0 := Lib.hid hr0
  have HR1 := Lib.hid hr1
  clear hr0 hr1
  by_cases hle : l1.length ≤ l0.length
  · have d1 : decide ((l1.length : Int) ≤ (l0.length : Int)) = true := decide_eq_true (by omega)
    have d2 : decide (l1.length ≤ l0.length) = true := decide_eq_true hle
    have p1 : (l1.length : Int) ≤ (l0.length : Int) := by omega
    have p2 : (l1.length : Int) ≤ (c0 : Int) := by omega
    have HT : Hid (Kd.C (Kd.int .u8) w A0 (l0.take l1.length).length (l0.take l1.length)) := Lib.hid (Kd.C_take HR0.out hle)
    have HL : Hid ((l0.take l1.length).length = l1.length) := Lib.hid (by rw [List.length_take]; omega)
    go_enter Try.func38, Try.ntmps38
    go_wp2_with (go_at_call 42; have hq := bytes_Equal.calls A0 c0 (l0.take l1.length) A1 c1 l1 _ w HT.out (by rw [HL.out]; omega) HR1.out hc1 rfl; rw [HL.out] at hq; refine hq.mono ?_; rintro e w' ⟨rfl, hk⟩)
    go_ret
    exact ⟨by rw [d2, Bool.true_and]; rfl, hk⟩
  · have d1 : decide ((l1.length : Int) ≤ (l0.length : Int)) = false := decide_eq_false (by omega)
    have d2 : decide (l1.length ≤ l0.length) = false := decide_eq_false hle
    go_enter Try.func38, Try.ntmps38
    go_wp2
    go_ret
    exact ⟨by rw [d2, Bool.false_and]; rfl, Drawn0.refl _⟩

end Go.Proofs.Ytkfeoilnhpfknaa.ImFnExactImageRead
end
section
namespace Go.Proofs.Ytkfeoilnhpfknaa.ImFnExactImageRead
open Go.RowKit Go.Proofs.Ytkfeoilnhpfknaa.QFnExactImageRead Go.Proofs.YtkfeoilnhpfknaaW.PrintWords Go.Proofs.YtkfeoilnhpfknaaW.PrintLast

/-- Behind a reading without a fault there was none ahead, and the reading took at least so many bytes. -/
def Meas {α : Type} (v : RSt → α) (r : RSt → RSt) (sz : α → Nat) : Prop := ∀ s, (r s).2 = false → s.2 = false ∧ sz (v s) + (r s).1.length ≤ s.1.length
theorem meas_num {α : Type} (v : RSt → α) (m : Nat) : Meas v (rNum m) (fun _ => m) := by
  intro s h
  obtain ⟨rest, bad⟩ := s
  change numF m rest bad = false at h
  show bad = false ∧ m + (numR m rest).length ≤ rest.length
  unfold numF at h
  unfold numR
  by_cases c : rest.length < m
  · rw [if_pos c] at h; cases h
  · rw [if_neg c] at h ⊢
    rw [List.length_drop]
    exact ⟨h, by omega⟩
theorem meas_many {α : Type} {v : RSt → α} {r : RSt → RSt} {sz : α → Nat} (h : Meas v r sz) (n : Nat) : Meas (vMany v r n) (rMany r n) (fun l => (l.map sz).sum) := by
  induction n with
  | zero => intro s hs; exact ⟨hs, by show 0 + s.1.length ≤ s.1.length; omega⟩
  | succ n ih =>
    intro s hs
    rw [rMany] at hs
    by_cases c : s.2 = true
    · rw [if_pos c, c] at hs; cases hs
    · rw [if_neg c] at hs
      obtain ⟨h1, h2⟩ := ih (r s) hs
      obtain ⟨h3, h4⟩ := h s h1
      refine ⟨h3, ?_⟩
      rw [vMany, rMany, if_neg c, if_neg c]
      simp only [List.map_cons, List.sum_cons]
      simp only at h2
      omega
theorem many_len {α : Type} {v : RSt → α} {r : RSt → RSt} (n : Nat) : ∀ s, (rMany r n s).2 = false → (vMany v r n s).length = n := by
  induction n with
  | zero => intro s _; rfl
  | succ n ih =>
    intro s hs
    rw [rMany] at hs
    by_cases c : s.2 = true
    · rw [if_pos c, c] at hs; cases hs
    · rw [if_neg c] at hs
      rw [vMany, if_neg c, List.length_cons, ih _ hs]
theorem sum_const {α : Type} (l : List α) (k : Nat) : (l.map fun _ => k).sum = k * l.length := by
  induction l with
  | nil => rfl
  | cons x l ih => rw [List.map_cons, List.sum_cons, ih, List.length_cons, Nat.mul_add]; omega
theorem intsV_many (n : Nat) : ∀ rest bad, intsV n rest bad = vMany (fun s => numV 2 s.1) (rNum 2) n (rest, bad) := by
  induction n with
  | zero => intro rest bad; rfl
  | succ n ih =>
    intro rest bad
    rw [intsV, vMany, ih]
    rfl
theorem intsR_many (n : Nat) : ∀ rest bad, rInts n (rest, bad) = rMany (rNum 2) n (rest, bad) := by
  induction n with
  | zero => intro rest bad; rfl
  | succ n ih =>
    intro rest bad
    show (intsR (n + 1) rest bad, intsF (n + 1) rest bad) = _
    rw [intsR, intsF, rMany]
    by_cases c : bad = true
    · rw [if_pos c, if_pos c, if_pos c]
    · rw [if_neg c, if_neg c, if_neg c]
      exact ih _ _
theorem meas_ints (n : Nat) : Meas (vInts n) (rInts n) (fun l => 2 * l.length) := by
  intro s hs
  obtain ⟨rest, bad⟩ := s
  have h := meas_many (meas_num (fun s => numV 2 s.1) 2) n (rest, bad)
  rw [intsR_many] at hs ⊢
  have h2 := h hs
  refine ⟨h2.1, ?_⟩
  show 2 * (intsV n rest bad).length + _ ≤ _
  rw [intsV_many]
  have h3 : ((vMany (fun s : RSt => numV 2 s.1) (rNum 2) n (rest, bad)).map fun _ => 2).sum + (rMany (rNum 2) n (rest, bad)).1.length ≤ rest.length := h2.2
  rw [sum_const] at h3
  exact h3
theorem ints_len (n : Nat) (s : RSt) (h : (rInts n s).2 = false) : (vInts n s).length = n := by
  obtain ⟨rest, bad⟩ := s
  show (intsV n rest bad).length = n
  rw [intsV_many]
  rw [intsR_many] at h
  exact many_len n _ h
theorem flat_sum {α : Type} (l : List α) (f : α → List Int) : (l.flatMap f).length = (l.map fun x => (f x).length).sum := by
  induction l with
  | nil => rfl
  | cons x l ih => rw [List.flatMap_cons, List.length_append, List.map_cons, List.sum_cons, ih]
theorem meas_ins : Meas vIns rIns (fun x => (insB x).length) := by
  intro s hs
  obtain ⟨h1, k1⟩ := meas_num (fun _ => ()) 8 _ hs
  obtain ⟨h2, k2⟩ := meas_num (fun _ => ()) 1 _ h1
  obtain ⟨h3, k3⟩ := meas_num (fun _ => ()) 1 _ h2
  obtain ⟨h4, k4⟩ := meas_num (fun _ => ()) 1 _ h3
  obtain ⟨h5, k5⟩ := meas_num (fun _ => ()) 1 _ h4
  simp only at k1 k2 k3 k4 k5
  refine ⟨h5, ?_⟩
  have e : (insB (vIns s)).length = 12 := by unfold insB; rw [List.length_append, lowB_len]; rfl
  show (insB (vIns s)).length + _ ≤ _
  rw [e]
  show 12 + (rNum 8 (rNum 1 (rNum 1 (rNum 1 (rNum 1 s))))).1.length ≤ _
  omega
theorem putB_len2 (l : List Int) : (putB l).length = 2 * l.length := by rw [putB_len]
theorem meas_map : Meas vMap rMap (fun x => (mapB x).length) := by
  intro s hs
  obtain ⟨h1, k1⟩ := meas_ints _ _ hs
  obtain ⟨h2, k2⟩ := meas_ints 2 s h1
  refine ⟨h2, ?_⟩
  have e := ints_len 2 s h1
  show (mapB (vMap s)).length + (rMap s).1.length ≤ s.1.length
  unfold mapB
  rw [List.length_append, putB_len2, putB_len2]
  simp only [List.length_cons, List.length_nil]
  simp only [e] at k2
  have k3 : 2 * (vMap s).f1.length + (rMap s).1.length ≤ (rInts 2 s).1.length := k1
  omega
theorem meas_code : Meas vCode rCode (fun x => (codeB x).length) := by
  intro s hs
  obtain ⟨h1, k1⟩ := meas_many meas_map _ _ hs
  obtain ⟨h2, k2⟩ := meas_many meas_ins _ _ h1
  obtain ⟨h3, k3⟩ := meas_ints 4 s h2
  refine ⟨h3, ?_⟩
  have e := ints_len 4 s h2
  show (codeB (vCode s)).length + (rCode s).1.length ≤ s.1.length
  unfold codeB
  rw [List.length_append, List.length_append, putB_len2, flat_sum, flat_sum]
  simp only [List.length_cons, List.length_nil]
  simp only [e] at k3
  have k4 : ((vCode s).f2.map fun x => (insB x).length).sum + (sIns s).1.length ≤ (rInts 4 s).1.length := k2
  have k5 : ((vCode s).f3.map fun x => (mapB x).length).sum + (rCode s).1.length ≤ (sIns s).1.length := k1
  omega
theorem meas_struct : Meas vStruct rStruct (fun x => (structB x).length) := by
  intro s hs
  obtain ⟨h1, k1⟩ := meas_many (meas_num vBool 1) _ _ hs
  obtain ⟨h2, k2⟩ := meas_num (fun _ => ()) 2 s h1
  refine ⟨h2, ?_⟩
  show (structB (vStruct s)).length + (rStruct s).1.length ≤ s.1.length
  unfold structB
  rw [List.length_append, putB_len2, List.length_map]
  simp only [List.length_cons, List.length_nil]
  have k3 : ((vStruct s).map fun _ => 1).sum + (rStruct s).1.length ≤ (rNum 2 s).1.length := k1
  rw [sum_const] at k3
  simp only at k2
  omega
/-- The image that has been read without a fault. -/
theorem img_size (s : RSt) (h : (sCodes s).2 = false) : (imgB (vStructs s) (vCodes s) (vMain s)).length ≤ s.1.length + 2 := by
  obtain ⟨h1, k1⟩ := meas_many meas_code _ _ h
  obtain ⟨h2, k2⟩ := meas_many meas_struct _ _ h1
  obtain ⟨h3, k3⟩ := meas_ints 3 s h2
  have e := ints_len 3 s h2
  unfold imgB headB
  rw [List.length_append, List.length_append, List.length_append, putB_len2, flat_sum, flat_sum]
  simp only [List.length_cons, List.length_nil]
  simp only [e] at k3
  have k4 : ((vStructs s).map fun x => (structB x).length).sum + (sStructs s).1.length ≤ (rInts 3 s).1.length := k2
  have k5 : ((vCodes s).map fun x => (codeB x).length).sum + (sCodes s).1.length ≤ (sStructs s).1.length := k1
  omega
theorem rStruct_or (s : RSt) : (rStruct s).2 = true ∨ (rStruct s).1.length + 1 ≤ s.1.length := by
  by_cases h : (rStruct s).2 = true
  · exact .inl h
  · right
    have h1 := (meas_struct s (by simpa using h)).2
    have h2 : 1 ≤ (structB (vStruct s)).length := by unfold structB; rw [List.length_append, putB_len2, List.length_cons]; omega
    simp only at h1
    omega
theorem rCode_or (s : RSt) : (rCode s).2 = true ∨ (rCode s).1.length + 1 ≤ s.1.length := by
  by_cases h : (rCode s).2 = true
  · exact .inl h
  · right
    have h1 := (meas_code s (by simpa using h)).2
    have h2 : 1 ≤ (codeB (vCode s)).length := by unfold codeB; rw [List.length_append, List.length_append, putB_len2, List.length_cons]; omega
    simp only at h1
    omega

end Go.Proofs.Ytkfeoilnhpfknaa.ImFnExactImageRead
end
