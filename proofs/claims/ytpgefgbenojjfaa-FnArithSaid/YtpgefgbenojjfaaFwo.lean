/- Contracts of Arith, program's and reference's, and the law that they are one. -/
import Derived.Test.YtpgefgbenojjfaaFwi
namespace Go.Proofs.Ytpgefgbenojjfaa.Fw
open Go.RowKit Go.Proofs.Ytpgefgbenojjfaa.Fl

/-- An operation at every world: the word that it gives there, and how often it asks the tape. -/
theorem op_all (op : BinOp) (ho : op = .add ∨ op = .sub ∨ op = .mul ∨ op = .quo) (x y : Nat) : ∃ (R NQ : World → Nat), (∀ w, R w < 2 ^ 64 ∧ bitsOf (R w) = bitsRes (floatBits op .f64 x y)) ∧ ∀ w, (binOp op 23 (.float .f64 x) (.float .f64 y)).run Try.prog w = .ok (.float .f64 (R w)) (w.drewN (NQ w)) :=
  ⟨fun w => Classical.choose (op_some op ho x y w), fun w => Classical.choose (Classical.choose_spec (op_some op ho x y w)),
   fun w => ⟨(Classical.choose_spec (Classical.choose_spec (op_some op ho x y w))).1, (Classical.choose_spec (Classical.choose_spec (op_some op ho x y w))).2.1⟩,
   fun w => (Classical.choose_spec (Classical.choose_spec (op_some op ho x y w))).2.2⟩

theorem ret_int {a b : Int} (h : a = b) : Ending.returned (.int .i64 a) = .returned (.int .i64 b) := by rw [h]

/-- What Arith answers: the number q, the tape being asked so and so often. -/
def Gives (q : Int) (w : World) (e : Ending) (w' : World) : Prop := ∃ nq, e = .returned (.int .i64 q) ∧ w' = w.drewN nq
theorem gives_zero (q : Int) (w : World) : Gives q w (.returned (.int .i64 q)) w := ⟨0, rfl, rfl⟩
theorem gives_here {q p : Int} (h : p = q) (w : World) : Gives q w (.returned (.int .i64 p)) w := ⟨0, by rw [h], rfl⟩
theorem gives_one {q p : Int} (h : p = q) (w : World) (n : Nat) : Gives q w (.returned (.int .i64 p)) (w.drewN n) := ⟨n, by rw [h], rfl⟩

set_option maxHeartbeats 1000000 in
theorem implArith0 (a b : Int) (w : World) : Calls Try.prog 22 #[.int .i64 0, .int .i64 a, .int .i64 b] w (Gives (bitsRes (floatBits .add .f64 (wordOf a) (wordOf b))) w) := by
  obtain ⟨R, NQ, hR, hrun⟩ := op_all .add (.inl rfl) (wordOf a) (wordOf b)
  have HR := Lib.hid hR
  clear hR
  go_enter Try.func22, Try.ntmps22
  go_wp2_with fail
  refine (implFloat a _).mono ?_
  rintro e w' ⟨rfl, rfl⟩
  go_wp2_with fail
  refine (implFloat b _).mono ?_
  rintro e w' ⟨rfl, rfl⟩
  go_wp2_with (go_at_call 16; refine (implBits _ (HR.out _).1 _).mono ?_; rintro e w' ⟨rfl, rfl⟩)
  go_ret
  exact gives_one (HR.out w).2 _ _

set_option maxHeartbeats 1000000 in
theorem implArith1 (a b : Int) (w : World) : Calls Try.prog 22 #[.int .i64 1, .int .i64 a, .int .i64 b] w (Gives (bitsRes (floatBits .sub .f64 (wordOf a) (wordOf b))) w) := by
  obtain ⟨R, NQ, hR, hrun⟩ := op_all .sub (.inr (.inl rfl)) (wordOf a) (wordOf b)
  have HR := Lib.hid hR
  clear hR
  go_enter Try.func22, Try.ntmps22
  go_wp2_with fail
  refine (implFloat a _).mono ?_
  rintro e w' ⟨rfl, rfl⟩
  go_wp2_with fail
  refine (implFloat b _).mono ?_
  rintro e w' ⟨rfl, rfl⟩
  go_wp2_with (go_at_call 16; refine (implBits _ (HR.out _).1 _).mono ?_; rintro e w' ⟨rfl, rfl⟩)
  go_ret
  exact gives_one (HR.out w).2 _ _

set_option maxHeartbeats 1000000 in
theorem implArith2 (a b : Int) (w : World) : Calls Try.prog 22 #[.int .i64 2, .int .i64 a, .int .i64 b] w (Gives (bitsRes (floatBits .mul .f64 (wordOf a) (wordOf b))) w) := by
  obtain ⟨R, NQ, hR, hrun⟩ := op_all .mul (.inr (.inr (.inl rfl))) (wordOf a) (wordOf b)
  have HR := Lib.hid hR
  clear hR
  go_enter Try.func22, Try.ntmps22
  go_wp2_with fail
  refine (implFloat a _).mono ?_
  rintro e w' ⟨rfl, rfl⟩
  go_wp2_with fail
  refine (implFloat b _).mono ?_
  rintro e w' ⟨rfl, rfl⟩
  go_wp2_with (go_at_call 16; refine (implBits _ (HR.out _).1 _).mono ?_; rintro e w' ⟨rfl, rfl⟩)
  go_ret
  exact gives_one (HR.out w).2 _ _

set_option maxHeartbeats 1000000 in
theorem implArith3 (a b : Int) (w : World) : Calls Try.prog 22 #[.int .i64 3, .int .i64 a, .int .i64 b] w (Gives (bitsRes (floatBits .quo .f64 (wordOf a) (wordOf b))) w) := by
  obtain ⟨R, NQ, hR, hrun⟩ := op_all .quo (.inr (.inr (.inr rfl))) (wordOf a) (wordOf b)
  have HR := Lib.hid hR
  clear hR
  go_enter Try.func22, Try.ntmps22
  go_wp2_with fail
  refine (implFloat a _).mono ?_
  rintro e w' ⟨rfl, rfl⟩
  go_wp2_with fail
  refine (implFloat b _).mono ?_
  rintro e w' ⟨rfl, rfl⟩
  go_wp2_with (go_at_call 16; refine (implBits _ (HR.out _).1 _).mono ?_; rintro e w' ⟨rfl, rfl⟩)
  go_ret
  exact gives_one (HR.out w).2 _ _

set_option maxHeartbeats 1000000 in
theorem implArith4 (a b : Int) (w : World) : Calls Try.prog 22 #[.int .i64 4, .int .i64 a, .int .i64 b] w (Gives (if FloatKind.f64.format.order (wordOf a) (wordOf b) == some .lt then 1 else 0) w) := by
  obtain ⟨q, hq⟩ : ∃ q : Int, q = (if FloatKind.f64.format.order (wordOf a) (wordOf b) == some .lt then 1 else 0) := ⟨_, rfl⟩
  rw [← hq]
  have HQ := Lib.hid hq
  clear hq
  go_enter Try.func22, Try.ntmps22
  go_wp2_with fail
  refine (implFloat a _).mono ?_
  rintro e w' ⟨rfl, rfl⟩
  go_wp2_with fail
  refine (implFloat b _).mono ?_
  rintro e w' ⟨rfl, rfl⟩
  go_wp2_with fail
  refine (truth_call _ _).mono ?_
  rintro e w' ⟨rfl, rfl⟩
  go_wp2_with fail
  all_goals go_ret
  all_goals exact gives_here (HQ.out.trans (by simp [*])).symm w

set_option maxHeartbeats 1000000 in
theorem implArith5 (a b : Int) (w : World) : Calls Try.prog 22 #[.int .i64 5, .int .i64 a, .int .i64 b] w (Gives (if FloatKind.f64.format.order (wordOf a) (wordOf b) == some .eq then 1 else 0) w) := by
  obtain ⟨q, hq⟩ : ∃ q : Int, q = (if FloatKind.f64.format.order (wordOf a) (wordOf b) == some .eq then 1 else 0) := ⟨_, rfl⟩
  rw [← hq]
  have HQ := Lib.hid hq
  clear hq
  go_enter Try.func22, Try.ntmps22
  go_wp2_with fail
  refine (implFloat a _).mono ?_
  rintro e w' ⟨rfl, rfl⟩
  go_wp2_with fail
  refine (implFloat b _).mono ?_
  rintro e w' ⟨rfl, rfl⟩
  go_wp2_with fail
  refine (truth_call _ _).mono ?_
  rintro e w' ⟨rfl, rfl⟩
  go_wp2_with fail
  all_goals go_ret
  all_goals exact gives_here (HQ.out.trans (by simp [*])).symm w

set_option maxHeartbeats 1000000 in
theorem implArith6 (op a b : Int) (h0 : op ≠ 0) (h1 : op ≠ 1) (h2 : op ≠ 2) (h3 : op ≠ 3) (h4 : op ≠ 4) (h5 : op ≠ 5) (w : World) : Calls Try.prog 22 #[.int .i64 op, .int .i64 a, .int .i64 b] w (Gives 0 w) := by
  have b0 : (op == 0) = false := beq_eq_false_iff_ne.2 h0
  have b1 : (op == 1) = false := beq_eq_false_iff_ne.2 h1
  have b2 : (op == 2) = false := beq_eq_false_iff_ne.2 h2
  have b3 : (op == 3) = false := beq_eq_false_iff_ne.2 h3
  have b4 : (op == 4) = false := beq_eq_false_iff_ne.2 h4
  have b5 : (op == 5) = false := beq_eq_false_iff_ne.2 h5
  clear h0 h1 h2 h3 h4 h5
  go_enter Try.func22, Try.ntmps22
  go_wp2_with fail
  refine (implFloat a _).mono ?_
  rintro e w' ⟨rfl, rfl⟩
  go_wp2_with fail
  refine (implFloat b _).mono ?_
  rintro e w' ⟨rfl, rfl⟩
  go_wp2
  go_ret
  exact gives_zero _ _

theorem implArith (op a b : Int) (w : World) : Calls Try.prog 22 #[.int .i64 op, .int .i64 a, .int .i64 b] w (Gives (arithV op (wordOf a) (wordOf b)) w) := by
  by_cases h0 : op = 0
  · subst h0; exact implArith0 a b w
  by_cases h1 : op = 1
  · subst h1; exact implArith1 a b w
  by_cases h2 : op = 2
  · subst h2; exact implArith2 a b w
  by_cases h3 : op = 3
  · subst h3; exact implArith3 a b w
  by_cases h4 : op = 4
  · subst h4; exact implArith4 a b w
  by_cases h5 : op = 5
  · subst h5; exact implArith5 a b w
  have e : arithV op (wordOf a) (wordOf b) = 0 := by unfold arithV; rw [if_neg h0, if_neg h1, if_neg h2, if_neg h3, if_neg h4, if_neg h5]
  rw [e]; exact implArith6 op a b h0 h1 h2 h3 h4 h5 w

set_option maxHeartbeats 1000000 in
theorem specArith0 (a b : Int) (w : World) : Calls Try.prog 21 #[.int .i64 0, .int .i64 a, .int .i64 b] w (Gives (bitsRes (floatBits .add .f64 (wordOf a) (wordOf b))) w) := by
  go_enter Try.func21, Try.ntmps21
  go_wp2_with fail
  refine (specFloat a _).mono ?_
  rintro e w' ⟨x, n1, rfl, hx, rfl⟩
  go_wp2_with fail
  refine (specFloat b _).mono ?_
  rintro e w' ⟨y, n2, rfl, hy, rfl⟩
  obtain ⟨R, NQ, hR, hrun⟩ := op_all .add (.inl rfl) x y
  have HR := Lib.hid hR
  have HS := Lib.hid (same_bits .add (wordOf_lt a) (wordOf_lt b) hx hy)
  clear hR hx hy
  go_wp2_with (go_at_call 15; refine (specBits _ (HR.out _).1 _).mono ?_; rintro e w' ⟨rfl, rfl⟩)
  go_ret
  exact gives_one ((HR.out _).2.trans (congrArg bitsRes HS.out)) _ _

set_option maxHeartbeats 1000000 in
theorem specArith1 (a b : Int) (w : World) : Calls Try.prog 21 #[.int .i64 1, .int .i64 a, .int .i64 b] w (Gives (bitsRes (floatBits .sub .f64 (wordOf a) (wordOf b))) w) := by
  go_enter Try.func21, Try.ntmps21
  go_wp2_with fail
  refine (specFloat a _).mono ?_
  rintro e w' ⟨x, n1, rfl, hx, rfl⟩
  go_wp2_with fail
  refine (specFloat b _).mono ?_
  rintro e w' ⟨y, n2, rfl, hy, rfl⟩
  obtain ⟨R, NQ, hR, hrun⟩ := op_all .sub (.inr (.inl rfl)) x y
  have HR := Lib.hid hR
  have HS := Lib.hid (same_bits .sub (wordOf_lt a) (wordOf_lt b) hx hy)
  clear hR hx hy
  go_wp2_with (go_at_call 15; refine (specBits _ (HR.out _).1 _).mono ?_; rintro e w' ⟨rfl, rfl⟩)
  go_ret
  exact gives_one ((HR.out _).2.trans (congrArg bitsRes HS.out)) _ _

set_option maxHeartbeats 1000000 in
theorem specArith2 (a b : Int) (w : World) : Calls Try.prog 21 #[.int .i64 2, .int .i64 a, .int .i64 b] w (Gives (bitsRes (floatBits .mul .f64 (wordOf a) (wordOf b))) w) := by
  go_enter Try.func21, Try.ntmps21
  go_wp2_with fail
  refine (specFloat a _).mono ?_
  rintro e w' ⟨x, n1, rfl, hx, rfl⟩
  go_wp2_with fail
  refine (specFloat b _).mono ?_
  rintro e w' ⟨y, n2, rfl, hy, rfl⟩
  obtain ⟨R, NQ, hR, hrun⟩ := op_all .mul (.inr (.inr (.inl rfl))) x y
  have HR := Lib.hid hR
  have HS := Lib.hid (same_bits .mul (wordOf_lt a) (wordOf_lt b) hx hy)
  clear hR hx hy
  go_wp2_with (go_at_call 15; refine (specBits _ (HR.out _).1 _).mono ?_; rintro e w' ⟨rfl, rfl⟩)
  go_ret
  exact gives_one ((HR.out _).2.trans (congrArg bitsRes HS.out)) _ _

set_option maxHeartbeats 1000000 in
theorem specArith3 (a b : Int) (w : World) : Calls Try.prog 21 #[.int .i64 3, .int .i64 a, .int .i64 b] w (Gives (bitsRes (floatBits .quo .f64 (wordOf a) (wordOf b))) w) := by
  go_enter Try.func21, Try.ntmps21
  go_wp2_with fail
  refine (specFloat a _).mono ?_
  rintro e w' ⟨x, n1, rfl, hx, rfl⟩
  go_wp2_with fail
  refine (specFloat b _).mono ?_
  rintro e w' ⟨y, n2, rfl, hy, rfl⟩
  obtain ⟨R, NQ, hR, hrun⟩ := op_all .quo (.inr (.inr (.inr rfl))) x y
  have HR := Lib.hid hR
  have HS := Lib.hid (same_bits .quo (wordOf_lt a) (wordOf_lt b) hx hy)
  clear hR hx hy
  go_wp2_with (go_at_call 15; refine (specBits _ (HR.out _).1 _).mono ?_; rintro e w' ⟨rfl, rfl⟩)
  go_ret
  exact gives_one ((HR.out _).2.trans (congrArg bitsRes HS.out)) _ _

set_option maxHeartbeats 1000000 in
theorem specArith4 (a b : Int) (w : World) : Calls Try.prog 21 #[.int .i64 4, .int .i64 a, .int .i64 b] w (Gives (if FloatKind.f64.format.order (wordOf a) (wordOf b) == some .lt then 1 else 0) w) := by
  obtain ⟨q, hq⟩ : ∃ q : Int, q = (if FloatKind.f64.format.order (wordOf a) (wordOf b) == some .lt then 1 else 0) := ⟨_, rfl⟩
  rw [← hq]
  have HQ := Lib.hid hq
  clear hq
  go_enter Try.func21, Try.ntmps21
  go_wp2_with fail
  refine (specFloat a _).mono ?_
  rintro e w' ⟨x, n1, rfl, hx, rfl⟩
  go_wp2_with fail
  refine (specFloat b _).mono ?_
  rintro e w' ⟨y, n2, rfl, hy, rfl⟩
  have HS := Lib.hid (same_order (wordOf_lt a) (wordOf_lt b) hx hy)
  clear hx hy
  go_wp2_with fail
  refine (l1bool_call _ _).mono ?_
  rintro e w' ⟨rfl, rfl⟩
  go_wp2_with fail
  all_goals go_ret
  all_goals exact gives_one (HQ.out.trans (by rw [← HS.out]; simp [*])).symm _ _

set_option maxHeartbeats 1000000 in
theorem specArith5 (a b : Int) (w : World) : Calls Try.prog 21 #[.int .i64 5, .int .i64 a, .int .i64 b] w (Gives (if FloatKind.f64.format.order (wordOf a) (wordOf b) == some .eq then 1 else 0) w) := by
  obtain ⟨q, hq⟩ : ∃ q : Int, q = (if FloatKind.f64.format.order (wordOf a) (wordOf b) == some .eq then 1 else 0) := ⟨_, rfl⟩
  rw [← hq]
  have HQ := Lib.hid hq
  clear hq
  go_enter Try.func21, Try.ntmps21
  go_wp2_with fail
  refine (specFloat a _).mono ?_
  rintro e w' ⟨x, n1, rfl, hx, rfl⟩
  go_wp2_with fail
  refine (specFloat b _).mono ?_
  rintro e w' ⟨y, n2, rfl, hy, rfl⟩
  have HS := Lib.hid (same_order (wordOf_lt a) (wordOf_lt b) hx hy)
  clear hx hy
  go_wp2_with fail
  refine (l1bool_call _ _).mono ?_
  rintro e w' ⟨rfl, rfl⟩
  go_wp2_with fail
  all_goals go_ret
  all_goals exact gives_one (HQ.out.trans (by rw [← HS.out]; simp [*])).symm _ _

set_option maxHeartbeats 1000000 in
theorem specArith6 (op a b : Int) (h0 : op ≠ 0) (h1 : op ≠ 1) (h2 : op ≠ 2) (h3 : op ≠ 3) (h4 : op ≠ 4) (h5 : op ≠ 5) (w : World) : Calls Try.prog 21 #[.int .i64 op, .int .i64 a, .int .i64 b] w (Gives 0 w) := by
  have b0 : (op == 0) = false := beq_eq_false_iff_ne.2 h0
  have b1 : (op == 1) = false := beq_eq_false_iff_ne.2 h1
  have b2 : (op == 2) = false := beq_eq_false_iff_ne.2 h2
  have b3 : (op == 3) = false := beq_eq_false_iff_ne.2 h3
  have b4 : (op == 4) = false := beq_eq_false_iff_ne.2 h4
  have b5 : (op == 5) = false := beq_eq_false_iff_ne.2 h5
  clear h0 h1 h2 h3 h4 h5
  go_enter Try.func21, Try.ntmps21
  go_wp2_with fail
  refine (specFloat a _).mono ?_
  rintro e w' ⟨x, n1, rfl, hx, rfl⟩
  go_wp2_with fail
  refine (specFloat b _).mono ?_
  rintro e w' ⟨y, n2, rfl, hy, rfl⟩
  clear hx hy
  go_wp2
  go_ret
  exact gives_one rfl _ _

theorem specArith (op a b : Int) (w : World) : Calls Try.prog 21 #[.int .i64 op, .int .i64 a, .int .i64 b] w (Gives (arithV op (wordOf a) (wordOf b)) w) := by
  by_cases h0 : op = 0
  · subst h0; exact specArith0 a b w
  by_cases h1 : op = 1
  · subst h1; exact specArith1 a b w
  by_cases h2 : op = 2
  · subst h2; exact specArith2 a b w
  by_cases h3 : op = 3
  · subst h3; exact specArith3 a b w
  by_cases h4 : op = 4
  · subst h4; exact specArith4 a b w
  by_cases h5 : op = 5
  · subst h5; exact specArith5 a b w
  have e : arithV op (wordOf a) (wordOf b) = 0 := by unfold arithV; rw [if_neg h0, if_neg h1, if_neg h2, if_neg h3, if_neg h4, if_neg h5]
  rw [e]; exact specArith6 op a b h0 h1 h2 h3 h4 h5 w

theorem lawArith (op a b : Int) (w : World) : Calls Try.prog 8 #[.int .i64 op, .int .i64 a, .int .i64 b] w fun e w' => e = .returned (.bool true) ∧ Below w.heap.size w w' := by
  go_enter Try.func8, Try.ntmps8
  go_wp2_with (first | (go_at_call 21; refine (specArith op a b _).mono ?_; rintro e w' ⟨nq, rfl, rfl⟩) | (go_at_call 22; refine (implArith op a b _).mono ?_; rintro e w' ⟨n2, rfl, rfl⟩))
  go_ret
  exact ⟨rfl, below_drewN _ _⟩

end Go.Proofs.Ytpgefgbenojjfaa.Fw
