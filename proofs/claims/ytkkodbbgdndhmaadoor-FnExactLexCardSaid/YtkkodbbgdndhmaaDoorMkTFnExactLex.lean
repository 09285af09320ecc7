/- Plain laws of the printed mark and held functions over tokens: what is written is found. -/
import Derived.Test.YtkkodbbgdndhmaaDoorByteQFnExactLex
import Derived.Test.YtkkodbbgdndhmaaDoorLexCFnExactLex
namespace Go.Proofs.YtkkodbbgdndhmaaDoor.MkpFnExactLex
open Go.RowKit Go.Proofs.YtkkodbbgdndhmaaDoor.QFnExactLex Go.Proofs.YtkkodbbgdndhmaaDoorW.PrintWords Go.Proofs.YtkkodbbgdndhmaaDoorW.PrintLast Go.Proofs.YtkkodbbgdndhmaaDoor.Aid Go.Proofs.YtkkodbbgdndhmaaDoor.ByteQFnExactLex
set_option linter.unusedVariables false

/-- A list, marked one element behind the other; ce: how many marks an element takes. -/
def mk {α : Type} (me : Int → α → α) (ce : α → Nat) : Int → List α → List α
  | _, [] => []
  | k, x :: l => me k x :: mk me ce (k + ce x) l
def cnt {α : Type} (ce : α → Nat) : List α → Nat
  | [] => 0
  | x :: l => ce x + cnt ce l
section
variable {α : Type} {me : Int → α → α} {ce : α → Nat}
theorem mk_len (l : List α) : ∀ k, (mk me ce k l).length = l.length := by
  induction l with
  | nil => intro k; rfl
  | cons x l ih => intro k; rw [mk, List.length_cons, List.length_cons, ih]
theorem cnt_app (a b : List α) : cnt ce (a ++ b) = cnt ce a + cnt ce b := by
  induction a with
  | nil => simp [cnt]
  | cons x a ih => rw [List.cons_append, cnt, cnt, ih]; omega
theorem mk_app (a b : List α) : ∀ k, mk me ce k (a ++ b) = mk me ce k a ++ mk me ce (k + cnt ce a) b := by
  induction a with
  | nil => intro k; simp [mk, cnt]
  | cons x a ih =>
    intro k
    rw [List.cons_append, mk, mk, ih, List.cons_append, cnt]
    congr 3
    omega
/-- The first i are marked. -/
def mpart (me : Int → α → α) (ce : α → Nat) (k : Int) (l : List α) (i : Nat) : List α := mk me ce k (l.take i) ++ l.drop i
theorem part_0 (k : Int) (l : List α) : mpart me ce k l 0 = l := by unfold mpart; rw [List.take_zero, List.drop_zero]; rfl
theorem part_all (k : Int) (l : List α) : mpart me ce k l l.length = mk me ce k l := by unfold mpart; rw [List.take_length, List.drop_length, List.append_nil]
theorem part_len (k : Int) (l : List α) (i : Nat) (h : i ≤ l.length) : (mpart me ce k l i).length = l.length := by
  unfold mpart
  rw [List.length_append, mk_len, List.length_take, List.length_drop]
  omega
theorem part_get (k : Int) (l : List α) (z : α) (i : Nat) (h : i < l.length) : (mpart me ce k l i).getD i z = l[i] := by
  unfold mpart
  have hl : (mk me ce k (l.take i)).length = i := by rw [mk_len, List.length_take]; omega
  rw [List.getD_eq_getElem?_getD, List.getElem?_append_right (by omega), hl, Nat.sub_self, List.getElem?_drop, Nat.add_zero, List.getElem?_eq_getElem h]
  rfl
theorem part_set (k : Int) (l : List α) (i : Nat) (h : i < l.length) : (mpart me ce k l i).set i (me (k + cnt ce (l.take i)) l[i]) = mpart me ce k l (i + 1) := by
  unfold mpart
  have hl : (mk me ce k (l.take i)).length = i := by rw [mk_len, List.length_take]; omega
  rw [List.set_append_right _ _ (by omega), hl, Nat.sub_self, List.drop_eq_getElem_cons h, List.set_cons_zero, List.take_succ_eq_append_getElem h, mk_app, List.append_assoc]
  rfl
theorem cnt_take (l : List α) (i : Nat) (h : i < l.length) : cnt ce (l.take (i + 1)) = cnt ce (l.take i) + ce l[i] := by
  rw [List.take_succ_eq_append_getElem h, cnt_app]
  rfl
theorem cnt_le (l : List α) (i : Nat) : cnt ce (l.take i) ≤ cnt ce l := by
  conv => rhs; rw [← List.take_append_drop i l, cnt_app]
  omega
theorem cnt_most (B : Nat) (l : List α) (h : ∀ x ∈ l, ce x ≤ B) : cnt ce l ≤ B * l.length := by
  induction l with
  | nil => simp [cnt]
  | cons x l ih =>
    have h1 := h x (List.mem_cons_self ..)
    have h2 := ih fun y hy => h y (List.mem_cons_of_mem _ hy)
    rw [cnt, List.length_cons, Nat.mul_add]
    omega
theorem mk_get (l : List α) : ∀ (k : Int) (i : Nat) (h : i < l.length), (mk me ce k l)[i]'(by rw [mk_len]; exact h) = me (k + cnt ce (l.take i)) l[i] := by
  induction l with
  | nil => intro k i h; exact absurd h (by simp)
  | cons x l ih =>
    intro k i h
    cases i with
    | zero => simp [mk, cnt]
    | succ i =>
      simp only [mk, List.getElem_cons_succ, List.take_succ_cons, cnt]
      rw [ih (k + ce x) i (by simpa using h)]
      congr 1
      omega
end

/-! ### The marks of tokens -/
def cT (t : S34) : Nat := 3 + t.f3.length
def mT1 (k : Int) (t : S34) : S34 := ⟨k, k + 1, k + 2, upB (k + 3) t.f3.length⟩
def mT : Int → List S34 → List S34 := mk mT1 cT

/-! ### What is held -/
theorem heldB_loop (n : Nat) (hn : n ≤ 1048576) (a : Int) (h0 : 0 ≤ a) (h1 : a ≤ 4611686018427387904) (d : Nat) : ∀ i : Nat, i ≤ n → n - i = d →
    Tells (fun k => laws_heldByteS.l0 k (upB a n) (a + i) (i : Int)) (fun r => r = a + n) := by
  induction d with
  | zero =>
    intro i hi hd
    refine Tells.step (fun k => by rw [laws_heldByteS.l0]) ?_
    exact Tells.neg (by rw [upB_len]; omega) (Tells.now (by omega))
  | succ d ih =>
    intro i hi hd
    refine Tells.step (fun k => by rw [laws_heldByteS.l0]) ?_
    refine Tells.pos (by rw [upB_len]; omega) (Tells.pos (by omega) (Tells.pos (upB_get a n i (by omega)) ?_))
    rw [wrap64_id (x := (i : Int) + 1) (by omega) (by omega), wrap64_id (x := a + (i : Int) + 1) (by omega) (by omega), show a + (i : Int) + 1 = a + ((i + 1 : Nat) : Int) from by omega, show (i : Int) + 1 = ((i + 1 : Nat) : Int) from by omega]
    exact ih (i + 1) (by omega) (by omega)
theorem heldB_tells (n : Nat) (hn : n ≤ 1048576) (a : Int) (h0 : 0 ≤ a) (h1 : a ≤ 4611686018427387904) : Tells (fun k => laws_heldByteS.f k (upB a n) a) (fun r => r = a + n) := by
  unfold laws_heldByteS.f
  simpa using heldB_loop n hn a h0 h1 n 0 (by omega) (by omega)
theorem rd34 (l : List S34) (j : Nat) (h : j < l.length) : rd_T34 l (j : Int) = l[j] := by
  unfold rd_T34
  rw [Int.toNat_natCast, List.getD_eq_getElem?_getD, List.getElem?_eq_getElem h]
  rfl
theorem heldT_loop (l : List S34) (hl : l.length ≤ 1048576) (hm : ∀ p ∈ l, p.f3.length ≤ 1048576) (a : Int) (h0 : 0 ≤ a) (h1 : a ≤ 2305843009213693952) (d : Nat) : ∀ i : Nat, i ≤ l.length → l.length - i = d →
    Tells (fun k => laws_heldTokenS.l0 k (mT a l) (a + cnt cT (l.take i)) (i : Int)) (fun r => r = a + cnt cT l) := by
  have hml : (mT a l).length = l.length := mk_len l a
  have hall := cnt_most (ce := cT) 1048579 l (fun p hp => by have := hm p hp; unfold cT; omega)
  induction d with
  | zero =>
    intro i hi hd
    refine Tells.step (fun k => by rw [laws_heldTokenS.l0]) ?_
    refine Tells.neg (by rw [hml]; omega) (Tells.now ?_)
    obtain rfl : i = l.length := by omega
    rw [List.take_length]
  | succ d ih =>
    intro i hi hd
    have hlt : i < l.length := by omega
    have hle := cnt_le (ce := cT) l i
    have hct := cnt_take (ce := cT) l i hlt
    have hp := hm l[i] (List.getElem_mem hlt)
    refine Tells.step (fun k => by rw [laws_heldTokenS.l0]) ?_
    have e : rd_T34 (mT a l) (i : Int) = mT1 (a + cnt cT (l.take i)) l[i] := by
      rw [rd34 _ i (by rw [hml]; omega)]
      exact mk_get l a i hlt
    rw [e]
    simp only [mT1]
    obtain ⟨c, hc⟩ : ∃ c, c = cnt cT (l.take i) := ⟨_, rfl⟩
    rw [← hc] at hle hct ⊢
    rw [wrap64_id (x := (i : Int) + 1) (by omega) (by omega), wrap64_id (x := a + (c : Int) + 1) (by omega) (by omega), wrap64_id (x := a + (c : Int) + 1 + 1) (by omega) (by omega), wrap64_id (x := a + (c : Int) + 1 + 1 + 1) (by omega) (by omega), show a + (c : Int) + 1 + 1 + 1 = a + (c : Int) + 3 from by omega]
    refine Tells.pos (by rw [hml]; omega) (Tells.pos (by omega) (Tells.pos trivial (Tells.pos rfl (Tells.pos (by omega) (Tells.bind (heldB_tells l[i].f3.length hp (a + (c : Int) + 3) (by omega) (by omega)) fun t ht => ?_)))))
    rw [ht]
    refine Tells.neg (by omega) ?_
    have e2 : a + (c : Int) + 3 + (l[i].f3.length : Int) = a + (cnt cT (l.take (i + 1)) : Int) := by
      rw [hct]; unfold cT; omega
    rw [e2, show (i : Int) + 1 = ((i + 1 : Nat) : Int) from by omega]
    exact ih (i + 1) (by omega) (by omega)
theorem heldT_tells (l : List S34) (hl : l.length ≤ 1048576) (hm : ∀ p ∈ l, p.f3.length ≤ 1048576) (a : Int) (h0 : 0 ≤ a) (h1 : a ≤ 2305843009213693952) : Tells (fun k => laws_heldTokenS.f k (mT a l) a) (fun r => r = a + cnt cT l) := by
  unfold laws_heldTokenS.f
  have := heldT_loop l hl hm a h0 h1 l.length 0 (by omega) (by omega)
  rw [List.take_zero] at this
  simpa [cnt] using this

end Go.Proofs.YtkkodbbgdndhmaaDoor.MkpFnExactLex
