/- Plain laws of the printed mark and held functions over what an image holds: what is written is found. -/
import Derived.Test.YtkfeoilnhpfknaaImgRFnExactImageRead
import Derived.Test.YtkfeoilnhpfknaaByteQFnExactImageRead
namespace Go.Proofs.Ytkfeoilnhpfknaa.MkpFnExactImageRead
open Go.RowKit Go.Proofs.Ytkfeoilnhpfknaa.QFnExactImageRead Go.Proofs.YtkfeoilnhpfknaaW.PrintWords Go.Proofs.YtkfeoilnhpfknaaW.PrintLast Go.Proofs.Ytkfeoilnhpfknaa.Aid Go.Proofs.Ytkfeoilnhpfknaa.ImgRFnExactImageRead
set_option linter.unusedVariables false

/-- A list, marked one element behind the other; ce: how many marks an element takes. -/
def mk {α : Type} (me : Int → α → α) (ce : α → Nat) : Int → List α → List α
  | _, [] => []
  | k, x :: l => me k x :: mk me ce (k + ce x) l
def cnt {α : Type} (ce : α → Nat) : List α → Nat
  | [] => 0
  | x :: l => ce x + cnt ce l
section
variable {α : Type} {me : Int → α → α} {ce : α → Nat}
theorem mk_len (l : List α) : ∀ k, (mk me ce k l).length = l.length := by
  induction l with
  | nil => intro k; rfl
  | cons x l ih => intro k; rw [mk, List.length_cons, List.length_cons, ih]
theorem cnt_app (a b : List α) : cnt ce (a ++ b) = cnt ce a + cnt ce b := by
  induction a with
  | nil => simp [cnt]
  | cons x a ih => rw [List.cons_append, cnt, cnt, ih]; omega
theorem mk_app (a b : List α) : ∀ k, mk me ce k (a ++ b) = mk me ce k a ++ mk me ce (k + cnt ce a) b := by
  induction a with
  | nil => intro k; simp [mk, cnt]
  | cons x a ih =>
    intro k
    rw [List.cons_append, mk, mk, ih, List.cons_append, cnt]
    congr 3
    omega
/-- The first i are marked. -/
def mpart (me : Int → α → α) (ce : α → Nat) (k : Int) (l : List α) (i : Nat) : List α := mk me ce k (l.take i) ++ l.drop i
theorem part_0 (k : Int) (l : List α) : mpart me ce k l 0 = l := by unfold mpart; rw [List.take_zero, List.drop_zero]; rfl
theorem part_all (k : Int) (l : List α) : mpart me ce k l l.length = mk me ce k l := by unfold mpart; rw [List.take_length, List.drop_length, List.append_nil]
theorem part_len (k : Int) (l : List α) (i : Nat) (h : i ≤ l.length) : (mpart me ce k l i).length = l.length := by
  unfold mpart
  rw [List.length_append, mk_len, List.length_take, List.length_drop]
  omega
theorem part_get (k : Int) (l : List α) (z : α) (i : Nat) (h : i < l.length) : (mpart me ce k l i).getD i z = l[i] := by
  unfold mpart
  have hl : (mk me ce k (l.take i)).length = i := by rw [mk_len, List.length_take]; omega
  rw [List.getD_eq_getElem?_getD, List.getElem?_append_right (by omega), hl, Nat.sub_self, List.getElem?_drop, Nat.add_zero, List.getElem?_eq_getElem h]
  rfl
theorem part_set (k : Int) (l : List α) (i : Nat) (h : i < l.length) : (mpart me ce k l i).set i (me (k + cnt ce (l.take i)) l[i]) = mpart me ce k l (i + 1) := by
  unfold mpart
  have hl : (mk me ce k (l.take i)).length = i := by rw [mk_len, List.length_take]; omega
  rw [List.set_append_right _ _ (by omega), hl, Nat.sub_self, List.drop_eq_getElem_cons h, List.set_cons_zero, List.take_succ_eq_append_getElem h, mk_app, List.append_assoc]
  rfl
theorem cnt_take (l : List α) (i : Nat) (h : i < l.length) : cnt ce (l.take (i + 1)) = cnt ce (l.take i) + ce l[i] := by
  rw [List.take_succ_eq_append_getElem h, cnt_app]
  rfl
theorem cnt_le (l : List α) (i : Nat) : cnt ce (l.take i) ≤ cnt ce l := by
  conv => rhs; rw [← List.take_append_drop i l, cnt_app]
  omega
theorem cnt_most (B : Nat) (l : List α) (h : ∀ x ∈ l, ce x ≤ B) : cnt ce l ≤ B * l.length := by
  induction l with
  | nil => simp [cnt]
  | cons x l ih =>
    have h1 := h x (List.mem_cons_self ..)
    have h2 := ih fun y hy => h y (List.mem_cons_of_mem _ hy)
    rw [cnt, List.length_cons, Nat.mul_add]
    omega
theorem mk_get (l : List α) : ∀ (k : Int) (i : Nat) (h : i < l.length), (mk me ce k l)[i]'(by rw [mk_len]; exact h) = me (k + cnt ce (l.take i)) l[i] := by
  induction l with
  | nil => intro k i h; exact absurd h (by simp)
  | cons x l ih =>
    intro k i h
    cases i with
    | zero => simp [mk, cnt]
    | succ i =>
      simp only [mk, List.getElem_cons_succ, List.take_succ_cons, cnt]
      rw [ih (k + ce x) i (by simpa using h)]
      congr 1
      omega
end

/-! ### The marks of an image -/
def mB : Int → List Bool → List Bool := mk (fun k _ => Int.tmod k 3 == 0) (fun _ => 1)
def mI : Int → List Int → List Int := mk (fun k _ => k) (fun _ => 1)
def mX : Int → List S68 → List S68 := mk (fun k _ => ⟨k, k + 1, k + 2, k + 3, k + 4⟩) (fun _ => 5)
def cM (p : S72) : Nat := 1 + p.f1.length
def mM1 (k : Int) (p : S72) : S72 := ⟨k, mI (k + 1) p.f1⟩
def mM : Int → List S72 → List S72 := mk mM1 cM
def cC (c : S53) : Nat := 2 + (5 * c.f2.length + cnt cM c.f3)
def mC1 (k : Int) (c : S53) : S53 := ⟨k, k + 1, mX (k + 2) c.f2, mM (k + 2 + (5 * c.f2.length : Nat)) c.f3⟩
def mC : Int → List S53 → List S53 := mk mC1 cC
def mS : Int → List (List Bool) → List (List Bool) := mk mB List.length
theorem cnt_one {α : Type} (l : List α) : cnt (fun _ => 1) l = l.length := by
  induction l with
  | nil => rfl
  | cons x l ih => rw [cnt, ih, List.length_cons]; omega
theorem cnt_five {α : Type} (l : List α) : cnt (fun _ => 5) l = 5 * l.length := by
  induction l with
  | nil => rfl
  | cons x l ih => rw [cnt, ih, List.length_cons]; omega

/-! ### Leaves: what the printed functions answer -/
theorem markB_loop (l : List Bool) (hl : l.length ≤ 1048576) (a : Int) (h0 : 0 ≤ a) (h1 : a ≤ 4611686018427387904) (d : Nat) : ∀ i : Nat, i ≤ l.length → l.length - i = d →
    Tells (fun k => laws_markBoolS.l0 k (mpart (fun k _ => Int.tmod k 3 == 0) (fun _ => 1) a l i) (a + i) (i : Int)) (fun r => r = (a + l.length, mB a l)) := by
  induction d with
  | zero =>
    intro i hi hd
    obtain rfl : i = l.length := by omega
    refine Tells.step (fun k => by rw [laws_markBoolS.l0]) ?_
    refine Tells.neg (by rw [part_len _ _ _ hi]; omega) (Tells.now ?_)
    rw [part_all]
    rfl
  | succ d ih =>
    intro i hi hd
    refine Tells.step (fun k => by rw [laws_markBoolS.l0]) ?_
    refine Tells.pos (by rw [part_len _ _ _ hi]; omega) (Tells.pos (by omega) ?_)
    rw [wrap64_id (x := (i : Int) + 1) (by omega) (by omega), wrap64_id (x := a + (i : Int) + 1) (by omega) (by omega), Int.toNat_natCast]
    have hs := part_set (me := fun (k : Int) (_ : Bool) => Int.tmod k 3 == 0) (ce := fun _ => 1) a l i (by omega)
    rw [cnt_one, List.length_take, Nat.min_eq_left (by omega)] at hs
    rw [hs, show a + (i : Int) + 1 = a + ((i + 1 : Nat) : Int) from by omega, show (i : Int) + 1 = ((i + 1 : Nat) : Int) from by omega]
    exact ih (i + 1) (by omega) (by omega)
theorem markB_tells (l : List Bool) (hl : l.length ≤ 1048576) (a : Int) (h0 : 0 ≤ a) (h1 : a ≤ 4611686018427387904) : Tells (fun k => laws_markBoolS.f k l a) (fun r => r = (a + l.length, mB a l)) := by
  unfold laws_markBoolS.f
  have := markB_loop l hl a h0 h1 l.length 0 (by omega) (by omega)
  rw [part_0] at this
  simpa using this
theorem markI_loop (l : List Int) (hl : l.length ≤ 1048576) (a : Int) (h0 : 0 ≤ a) (h1 : a ≤ 4611686018427387904) (d : Nat) : ∀ i : Nat, i ≤ l.length → l.length - i = d →
    Tells (fun k => laws_markIntS.l0 k (mpart (fun k _ => k) (fun _ => 1) a l i) (a + i) (i : Int)) (fun r => r = (a + l.length, mI a l)) := by
  induction d with
  | zero =>
    intro i hi hd
    obtain rfl : i = l.length := by omega
    refine Tells.step (fun k => by rw [laws_markIntS.l0]) ?_
    refine Tells.neg (by rw [part_len _ _ _ hi]; omega) (Tells.now ?_)
    rw [part_all]
    rfl
  | succ d ih =>
    intro i hi hd
    refine Tells.step (fun k => by rw [laws_markIntS.l0]) ?_
    refine Tells.pos (by rw [part_len _ _ _ hi]; omega) (Tells.pos (by omega) ?_)
    rw [wrap64_id (x := (i : Int) + 1) (by omega) (by omega), wrap64_id (x := a + (i : Int) + 1) (by omega) (by omega), Int.toNat_natCast]
    have hs := part_set (me := fun (k : Int) (_ : Int) => k) (ce := fun _ => 1) a l i (by omega)
    rw [cnt_one, List.length_take, Nat.min_eq_left (by omega)] at hs
    rw [hs, show a + (i : Int) + 1 = a + ((i + 1 : Nat) : Int) from by omega, show (i : Int) + 1 = ((i + 1 : Nat) : Int) from by omega]
    exact ih (i + 1) (by omega) (by omega)
theorem markI_tells (l : List Int) (hl : l.length ≤ 1048576) (a : Int) (h0 : 0 ≤ a) (h1 : a ≤ 4611686018427387904) : Tells (fun k => laws_markIntS.f k l a) (fun r => r = (a + l.length, mI a l)) := by
  unfold laws_markIntS.f
  have := markI_loop l hl a h0 h1 l.length 0 (by omega) (by omega)
  rw [part_0] at this
  simpa using this
theorem rd_set (l : List S68) (i : Nat) (h : i < l.length) (p : S68) : rd_T68 (l.set i p) (i : Int) = p := by
  unfold rd_T68
  rw [Int.toNat_natCast, List.getD_eq_getElem?_getD, List.getElem?_set_self h]
  rfl
theorem markX_loop (l : List S68) (hl : l.length ≤ 1048576) (a : Int) (h0 : 0 ≤ a) (h1 : a ≤ 4611686018427387904) (d : Nat) : ∀ i : Nat, i ≤ l.length → l.length - i = d →
    Tells (fun k => laws_markInsS.l0 k (mpart (fun k _ => ⟨k, k + 1, k + 2, k + 3, k + 4⟩) (fun _ => 5) a l i) (a + (5 * i : Nat)) (i : Int)) (fun r => r = (a + (5 * l.length : Nat), mX a l)) := by
  induction d with
  | zero =>
    intro i hi hd
    obtain rfl : i = l.length := by omega
    refine Tells.step (fun k => by rw [laws_markInsS.l0]) ?_
    refine Tells.neg (by rw [part_len _ _ _ hi]; omega) (Tells.now ?_)
    rw [part_all]
    rfl
  | succ d ih =>
    intro i hi hd
    refine Tells.step (fun k => by rw [laws_markInsS.l0]) ?_
    refine Tells.pos (by rw [part_len _ _ _ hi]; omega) (Tells.pos (by omega) ?_)
    have hpl := part_len (me := fun (k : Int) (_ : S68) => (⟨k, k + 1, k + 2, k + 3, k + 4⟩ : S68)) (ce := fun _ => 5) a l i hi
    have hs := part_set (me := fun (k : Int) (_ : S68) => (⟨k, k + 1, k + 2, k + 3, k + 4⟩ : S68)) (ce := fun _ => 5) a l i (by omega)
    rw [cnt_five, List.length_take, Nat.min_eq_left (by omega)] at hs
    rw [wrap64_id (x := (i : Int) + 1) (by omega) (by omega), wrap64_id (x := a + ((5 * i : Nat) : Int) + 1) (by omega) (by omega), wrap64_id (x := a + ((5 * i : Nat) : Int) + 1 + 1) (by omega) (by omega), wrap64_id (x := a + ((5 * i : Nat) : Int) + 1 + 1 + 1) (by omega) (by omega), wrap64_id (x := a + ((5 * i : Nat) : Int) + 1 + 1 + 1 + 1) (by omega) (by omega), wrap64_id (x := a + ((5 * i : Nat) : Int) + 1 + 1 + 1 + 1 + 1) (by omega) (by omega), Int.toNat_natCast]
    simp only [Option.bind_some]
    have hi2 : i < (mpart (fun (k : Int) (_ : S68) => (⟨k, k + 1, k + 2, k + 3, k + 4⟩ : S68)) (fun _ => 5) a l i).length := by omega
    simp only [rd_set, hi2, List.set_set]
    rw [show a + ((5 * i : Nat) : Int) + 1 + 1 + 1 + 1 + 1 = a + ((5 * (i + 1) : Nat) : Int) from by omega, show a + ((5 * i : Nat) : Int) + 1 + 1 + 1 + 1 = a + ((5 * i : Nat) : Int) + 4 from by omega, show a + ((5 * i : Nat) : Int) + 1 + 1 + 1 = a + ((5 * i : Nat) : Int) + 3 from by omega, show a + ((5 * i : Nat) : Int) + 1 + 1 = a + ((5 * i : Nat) : Int) + 2 from by omega, show (i : Int) + 1 = ((i + 1 : Nat) : Int) from by omega]
    rw [hs]
    exact ih (i + 1) (by omega) (by omega)
theorem markX_tells (l : List S68) (hl : l.length ≤ 1048576) (a : Int) (h0 : 0 ≤ a) (h1 : a ≤ 4611686018427387904) : Tells (fun k => laws_markInsS.f k l a) (fun r => r = (a + (5 * l.length : Nat), mX a l)) := by
  unfold laws_markInsS.f
  have := markX_loop l hl a h0 h1 l.length 0 (by omega) (by omega)
  rw [part_0] at this
  simpa using this

/-! ### What is held -/
theorem rdB_eq (l : List Bool) (j : Nat) (h : j < l.length) : rdOf false l (j : Int) = l[j] := rdB l j h
theorem heldB_loop (l : List Bool) (hl : l.length ≤ 1048576) (a : Int) (h0 : 0 ≤ a) (h1 : a ≤ 4611686018427387904) (d : Nat) : ∀ i : Nat, i ≤ l.length → l.length - i = d →
    Tells (fun k => laws_heldBoolS.l0 k (mB a l) (a + i) (i : Int)) (fun r => r = a + l.length) := by
  have hml : (mB a l).length = l.length := mk_len l a
  induction d with
  | zero =>
    intro i hi hd
    refine Tells.step (fun k => by rw [laws_heldBoolS.l0]) ?_
    exact Tells.neg (by rw [hml]; omega) (Tells.now (by omega))
  | succ d ih =>
    intro i hi hd
    refine Tells.step (fun k => by rw [laws_heldBoolS.l0]) ?_
    have e : rdOf false (mB a l) (i : Int) = (Int.tmod (a + i) 3 == 0) := by
      rw [rdB _ i (by rw [hml]; omega)]
      have h := mk_get (me := fun (k : Int) (_ : Bool) => Int.tmod k 3 == 0) (ce := fun _ => 1) l a i (by omega)
      rw [cnt_one, List.length_take, Nat.min_eq_left (by omega)] at h
      exact h
    refine Tells.pos (by rw [hml]; omega) (Tells.pos (by omega) (Tells.neg (by rw [e, bne_self_eq_false]; decide) ?_))
    rw [wrap64_id (x := (i : Int) + 1) (by omega) (by omega), wrap64_id (x := a + (i : Int) + 1) (by omega) (by omega), show a + (i : Int) + 1 = a + ((i + 1 : Nat) : Int) from by omega, show (i : Int) + 1 = ((i + 1 : Nat) : Int) from by omega]
    exact ih (i + 1) (by omega) (by omega)
theorem heldB_tells (l : List Bool) (hl : l.length ≤ 1048576) (a : Int) (h0 : 0 ≤ a) (h1 : a ≤ 4611686018427387904) : Tells (fun k => laws_heldBoolS.f k (mB a l) a) (fun r => r = a + l.length) := by
  unfold laws_heldBoolS.f
  simpa using heldB_loop l hl a h0 h1 l.length 0 (by omega) (by omega)
theorem heldI_loop (l : List Int) (hl : l.length ≤ 1048576) (a : Int) (h0 : 0 ≤ a) (h1 : a ≤ 4611686018427387904) (d : Nat) : ∀ i : Nat, i ≤ l.length → l.length - i = d →
    Tells (fun k => laws_heldIntS.l0 k (mI a l) (a + i) (i : Int)) (fun r => r = a + l.length) := by
  have hml : (mI a l).length = l.length := mk_len l a
  induction d with
  | zero =>
    intro i hi hd
    refine Tells.step (fun k => by rw [laws_heldIntS.l0]) ?_
    exact Tells.neg (by rw [hml]; omega) (Tells.now (by omega))
  | succ d ih =>
    intro i hi hd
    refine Tells.step (fun k => by rw [laws_heldIntS.l0]) ?_
    have e : rd (mI a l) (i : Int) = a + i := by
      rw [rd_eq _ i (by rw [hml]; omega)]
      have h := mk_get (me := fun (k : Int) (_ : Int) => k) (ce := fun _ => 1) l a i (by omega)
      rw [cnt_one, List.length_take, Nat.min_eq_left (by omega)] at h
      exact h
    refine Tells.pos (by rw [hml]; omega) (Tells.pos (by omega) (Tells.pos e ?_))
    rw [wrap64_id (x := (i : Int) + 1) (by omega) (by omega), wrap64_id (x := a + (i : Int) + 1) (by omega) (by omega), show a + (i : Int) + 1 = a + ((i + 1 : Nat) : Int) from by omega, show (i : Int) + 1 = ((i + 1 : Nat) : Int) from by omega]
    exact ih (i + 1) (by omega) (by omega)
theorem heldI_tells (l : List Int) (hl : l.length ≤ 1048576) (a : Int) (h0 : 0 ≤ a) (h1 : a ≤ 4611686018427387904) : Tells (fun k => laws_heldIntS.f k (mI a l) a) (fun r => r = a + l.length) := by
  unfold laws_heldIntS.f
  simpa using heldI_loop l hl a h0 h1 l.length 0 (by omega) (by omega)
theorem heldX_loop (l : List S68) (hl : l.length ≤ 1048576) (a : Int) (h0 : 0 ≤ a) (h1 : a ≤ 4611686018427387904) (d : Nat) : ∀ i : Nat, i ≤ l.length → l.length - i = d →
    Tells (fun k => laws_heldInsS.l0 k (mX a l) (a + (5 * i : Nat)) (i : Int)) (fun r => r = a + (5 * l.length : Nat)) := by
  have hml : (mX a l).length = l.length := mk_len l a
  induction d with
  | zero =>
    intro i hi hd
    refine Tells.step (fun k => by rw [laws_heldInsS.l0]) ?_
    refine Tells.neg (by rw [hml]; omega) (Tells.now ?_)
    obtain rfl : i = l.length := by omega
    rfl
  | succ d ih =>
    intro i hi hd
    refine Tells.step (fun k => by rw [laws_heldInsS.l0]) ?_
    have e : rd_T68 (mX a l) (i : Int) = ⟨a + (5 * i : Nat), a + (5 * i : Nat) + 1, a + (5 * i : Nat) + 2, a + (5 * i : Nat) + 3, a + (5 * i : Nat) + 4⟩ := by
      rw [rd68 _ i (by rw [hml]; omega)]
      have h := mk_get (me := fun (k : Int) (_ : S68) => (⟨k, k + 1, k + 2, k + 3, k + 4⟩ : S68)) (ce := fun _ => 5) l a i (by omega)
      rw [cnt_five, List.length_take, Nat.min_eq_left (by omega)] at h
      exact h
    rw [e]
    simp only
    rw [wrap64_id (x := (i : Int) + 1) (by omega) (by omega), wrap64_id (x := a + ((5 * i : Nat) : Int) + 1) (by omega) (by omega), wrap64_id (x := a + ((5 * i : Nat) : Int) + 1 + 1) (by omega) (by omega), wrap64_id (x := a + ((5 * i : Nat) : Int) + 1 + 1 + 1) (by omega) (by omega), wrap64_id (x := a + ((5 * i : Nat) : Int) + 1 + 1 + 1 + 1) (by omega) (by omega), wrap64_id (x := a + ((5 * i : Nat) : Int) + 1 + 1 + 1 + 1 + 1) (by omega) (by omega)]
    refine Tells.pos (by rw [hml]; omega) (Tells.pos (by omega) (Tells.pos trivial (Tells.pos rfl (Tells.pos (by omega) (Tells.pos (by omega) (Tells.pos (by omega) ?_))))))
    rw [show a + ((5 * i : Nat) : Int) + 1 + 1 + 1 + 1 + 1 = a + ((5 * (i + 1) : Nat) : Int) from by omega, show (i : Int) + 1 = ((i + 1 : Nat) : Int) from by omega]
    exact ih (i + 1) (by omega) (by omega)
theorem heldX_tells (l : List S68) (hl : l.length ≤ 1048576) (a : Int) (h0 : 0 ≤ a) (h1 : a ≤ 4611686018427387904) : Tells (fun k => laws_heldInsS.f k (mX a l) a) (fun r => r = a + (5 * l.length : Nat)) := by
  unfold laws_heldInsS.f
  simpa using heldX_loop l hl a h0 h1 l.length 0 (by omega) (by omega)
theorem heldM_loop (l : List S72) (hl : l.length ≤ 1048576) (hm : ∀ p ∈ l, p.f1.length ≤ 1048576) (a : Int) (h0 : 0 ≤ a) (h1 : a ≤ 2305843009213693952) (d : Nat) : ∀ i : Nat, i ≤ l.length → l.length - i = d →
    Tells (fun k => laws_heldMapS.l0 k (mM a l) (a + cnt cM (l.take i)) (i : Int)) (fun r => r = a + cnt cM l) := by
  have hml : (mM a l).length = l.length := mk_len l a
  have hall := cnt_most (ce := cM) 1048577 l (fun p hp => by have := hm p hp; unfold cM; omega)
  induction d with
  | zero =>
    intro i hi hd
    refine Tells.step (fun k => by rw [laws_heldMapS.l0]) ?_
    refine Tells.neg (by rw [hml]; omega) (Tells.now ?_)
    obtain rfl : i = l.length := by omega
    rw [List.take_length]
  | succ d ih =>
    intro i hi hd
    have hlt : i < l.length := by omega
    have hle := cnt_le (ce := cM) l i
    have hct := cnt_take (ce := cM) l i hlt
    have hp := hm l[i] (List.getElem_mem hlt)
    refine Tells.step (fun k => by rw [laws_heldMapS.l0]) ?_
    have e : rd_T72 (mM a l) (i : Int) = mM1 (a + cnt cM (l.take i)) l[i] := by
      rw [rd72 _ i (by rw [hml]; omega)]
      exact mk_get l a i hlt
    rw [e]
    simp only [mM1]
    obtain ⟨c, hc⟩ : ∃ c, c = cnt cM (l.take i) := ⟨_, rfl⟩
    rw [← hc] at hle hct ⊢
    rw [wrap64_id (x := (i : Int) + 1) (by omega) (by omega), wrap64_id (x := a + (c : Int) + 1) (by omega) (by omega)]
    refine Tells.pos (by rw [hml]; omega) (Tells.pos (by omega) (Tells.pos trivial (Tells.bind (heldI_tells l[i].f1 hp (a + (c : Int) + 1) (by omega) (by omega)) fun t ht => ?_)))
    rw [ht]
    refine Tells.neg (by omega) ?_
    have e2 : a + (c : Int) + 1 + (l[i].f1.length : Int) = a + (cnt cM (l.take (i + 1)) : Int) := by
      rw [hct]; unfold cM; omega
    rw [e2, show (i : Int) + 1 = ((i + 1 : Nat) : Int) from by omega]
    exact ih (i + 1) (by omega) (by omega)
theorem heldM_tells (l : List S72) (hl : l.length ≤ 1048576) (hm : ∀ p ∈ l, p.f1.length ≤ 1048576) (a : Int) (h0 : 0 ≤ a) (h1 : a ≤ 2305843009213693952) : Tells (fun k => laws_heldMapS.f k (mM a l) a) (fun r => r = a + cnt cM l) := by
  unfold laws_heldMapS.f
  have := heldM_loop l hl hm a h0 h1 l.length 0 (by omega) (by omega)
  rw [List.take_zero] at this
  simpa [cnt] using this
def ShortC (c : S53) : Prop := c.f2.length ≤ 1048576 ∧ c.f3.length ≤ 1048576 ∧ ∀ p ∈ c.f3, p.f1.length ≤ 1048576
theorem cC_le {c : S53} (h : ShortC c) : cC c ≤ 1099518836738 := by
  have := cnt_most (ce := cM) 1048577 c.f3 (fun p hp => by have := h.2.2 p hp; unfold cM; omega)
  have h2 := h.1
  have h3 := h.2.1
  unfold cC
  omega
theorem heldC_loop (l : List S53) (hl : l.length ≤ 1048576) (hc : ∀ c ∈ l, ShortC c) (a : Int) (h0 : 0 ≤ a) (h1 : a ≤ 1125899906842624) (d : Nat) : ∀ i : Nat, i ≤ l.length → l.length - i = d →
    Tells (fun k => laws_heldCodeS.l0 k (mC a l) (a + cnt cC (l.take i)) (i : Int)) (fun r => r = a + cnt cC l) := by
  have hml : (mC a l).length = l.length := mk_len l a
  have hall := cnt_most (ce := cC) 1099518836738 l (fun c h => cC_le (hc c h))
  induction d with
  | zero =>
    intro i hi hd
    refine Tells.step (fun k => by rw [laws_heldCodeS.l0]) ?_
    refine Tells.neg (by rw [hml]; omega) (Tells.now ?_)
    obtain rfl : i = l.length := by omega
    rw [List.take_length]
  | succ d ih =>
    intro i hi hd
    have hlt : i < l.length := by omega
    have hle := cnt_le (ce := cC) l i
    have hct := cnt_take (ce := cC) l i hlt
    have hp := hc l[i] (List.getElem_mem hlt)
    have hcc := cC_le hp
    refine Tells.step (fun k => by rw [laws_heldCodeS.l0]) ?_
    have e : rd_T53 (mC a l) (i : Int) = mC1 (a + cnt cC (l.take i)) l[i] := by
      rw [rd53 _ i (by rw [hml]; omega)]
      exact mk_get l a i hlt
    rw [e]
    simp only [mC1]
    obtain ⟨c, hc'⟩ : ∃ c, c = cnt cC (l.take i) := ⟨_, rfl⟩
    rw [← hc'] at hle hct ⊢
    rw [wrap64_id (x := (i : Int) + 1) (by omega) (by omega), wrap64_id (x := a + (c : Int) + 1) (by omega) (by omega), wrap64_id (x := a + (c : Int) + 1 + 1) (by omega) (by omega), show a + (c : Int) + 1 + 1 = a + (c : Int) + 2 from by omega]
    have hx5 : 5 * l[i].f2.length ≤ 5242880 := by have := hp.1; omega
    refine Tells.pos (by rw [hml]; omega) (Tells.pos (by omega) (Tells.pos trivial (Tells.pos rfl (Tells.bind (heldX_tells l[i].f2 hp.1 (a + (c : Int) + 2) (by omega) (by omega)) fun t ht => ?_))))
    rw [ht]
    refine Tells.neg (by omega) (Tells.bind (heldM_tells l[i].f3 hp.2.1 hp.2.2 (a + (c : Int) + 2 + ((5 * l[i].f2.length : Nat) : Int)) (by omega) (by omega)) fun t ht => ?_)
    rw [ht]
    refine Tells.neg (by omega) ?_
    have e2 : a + (c : Int) + 2 + ((5 * l[i].f2.length : Nat) : Int) + (cnt cM l[i].f3 : Int) = a + (cnt cC (l.take (i + 1)) : Int) := by
      rw [hct]; unfold cC; omega
    rw [e2, show (i : Int) + 1 = ((i + 1 : Nat) : Int) from by omega]
    exact ih (i + 1) (by omega) (by omega)
theorem heldC_tells (l : List S53) (hl : l.length ≤ 1048576) (hc : ∀ c ∈ l, ShortC c) (a : Int) (h0 : 0 ≤ a) (h1 : a ≤ 1125899906842624) : Tells (fun k => laws_heldCodeS.f k (mC a l) a) (fun r => r = a + cnt cC l) := by
  unfold laws_heldCodeS.f
  have := heldC_loop l hl hc a h0 h1 l.length 0 (by omega) (by omega)
  rw [List.take_zero] at this
  simpa [cnt] using this
theorem heldS_loop (l : List (List Bool)) (hl : l.length ≤ 1048576) (hs : ∀ s ∈ l, s.length ≤ 1048576) (a : Int) (h0 : 0 ≤ a) (h1 : a ≤ 1125899906842624) (d : Nat) : ∀ i : Nat, i ≤ l.length → l.length - i = d →
    Tells (fun k => laws_heldBoolSS.l0 k (mS a l) (a + cnt List.length (l.take i)) (i : Int)) (fun r => r = a + cnt List.length l) := by
  have hml : (mS a l).length = l.length := mk_len l a
  have hall := cnt_most (ce := List.length) 1048576 l hs
  induction d with
  | zero =>
    intro i hi hd
    refine Tells.step (fun k => by rw [laws_heldBoolSS.l0]) ?_
    refine Tells.neg (by rw [hml]; omega) (Tells.now ?_)
    obtain rfl : i = l.length := by omega
    rw [List.take_length]
  | succ d ih =>
    intro i hi hd
    have hlt : i < l.length := by omega
    have hle := cnt_le (ce := List.length) l i
    have hct := cnt_take (ce := List.length) l i hlt
    have hp := hs l[i] (List.getElem_mem hlt)
    refine Tells.step (fun k => by rw [laws_heldBoolSS.l0]) ?_
    have e : rd_L1 (mS a l) (i : Int) = mB (a + cnt List.length (l.take i)) l[i] := by
      rw [rdL1 _ i (by rw [hml]; omega)]
      exact mk_get l a i hlt
    rw [e]
    obtain ⟨c, hc⟩ : ∃ c, c = cnt List.length (l.take i) := ⟨_, rfl⟩
    rw [← hc] at hle hct ⊢
    rw [wrap64_id (x := (i : Int) + 1) (by omega) (by omega)]
    refine Tells.pos (by rw [hml]; omega) (Tells.pos (by omega) (Tells.bind (heldB_tells l[i] hp (a + (c : Int)) (by omega) (by omega)) fun t ht => ?_))
    rw [ht]
    refine Tells.neg (by omega) ?_
    have e2 : a + (c : Int) + (l[i].length : Int) = a + (cnt List.length (l.take (i + 1)) : Int) := by
      rw [hct]; omega
    rw [e2, show (i : Int) + 1 = ((i + 1 : Nat) : Int) from by omega]
    exact ih (i + 1) (by omega) (by omega)
theorem heldS_tells (l : List (List Bool)) (hl : l.length ≤ 1048576) (hs : ∀ s ∈ l, s.length ≤ 1048576) (a : Int) (h0 : 0 ≤ a) (h1 : a ≤ 1125899906842624) : Tells (fun k => laws_heldBoolSS.f k (mS a l) a) (fun r => r = a + cnt List.length l) := by
  unfold laws_heldBoolSS.f
  have := heldS_loop l hl hs a h0 h1 l.length 0 (by omega) (by omega)
  rw [List.take_zero] at this
  simpa [cnt] using this
theorem heldImage_tells (l0 : List (List Bool)) (l1 : List S53) (a2 : Int) (h0 : l0.length ≤ 1048576) (hs : ∀ s ∈ l0, s.length ≤ 1048576) (h1 : l1.length ≤ 1048576) (hc : ∀ c ∈ l1, ShortC c) :
    Tells (fun k => laws_heldImage.f k (mS 1 l0) (mC (1 + cnt List.length l0) l1) a2 1) (fun r => r = 1 + cnt List.length l0 + cnt cC l1) := by
  have hall := cnt_most (ce := List.length) 1048576 l0 hs
  unfold laws_heldImage.f
  refine Tells.bind (heldS_tells l0 h0 hs 1 (by omega) (by omega)) fun t ht => ?_
  rw [ht]
  refine Tells.neg (by omega) (Tells.bind (heldC_tells l1 h1 hc (1 + cnt List.length l0) (by omega) (by omega)) fun t ht => ?_)
  rw [ht]
  exact Tells.neg (by omega) (Tells.now rfl)

end Go.Proofs.Ytkfeoilnhpfknaa.MkpFnExactImageRead
