/- Plain laws of the drawn cursor (spec.l1New, l1Byte, l1Below, l1Once, l1PickInt, l1int) of one law: each answers, in bounds. -/
import Derived.Test.YtpgefgbenojjfaaQFnArithx
import Derived.Test.YtpgefgbenojjfaaAid
namespace Go.Proofs.Ytpgefgbenojjfaa.CurFnArith
open Go.RowKit Go.Proofs.Ytpgefgbenojjfaa.QFnArith Go.Proofs.YtpgefgbenojjfaaW.PrintWords Go.Proofs.YtpgefgbenojjfaaW.PrintLast Go.Proofs.Ytpgefgbenojjfaa.Aid

theorem and255 (n : Int) : 0 ≤ Go.bits .and .i64 n 255 ∧ Go.bits .and .i64 n 255 ≤ 255 := by
  have h255 : (BitVec.ofInt 64 255).toNat = 2 ^ 8 - 1 := by decide
  have key : (BitVec.ofInt 64 n &&& BitVec.ofInt 64 255).toNat = (n % ((2 ^ 64 : Nat) : Int)).toNat % 2 ^ 8 := by
    rw [BitVec.toNat_and, BitVec.toNat_ofInt, h255, Nat.and_two_pow_sub_one_eq_mod]
  have e : Go.bits .and .i64 n 255 = n % 256 := by
    show IntKind.i64.wrap ((BitVec.ofInt 64 n &&& BitVec.ofInt 64 255).toNat : Nat) = n % 256
    rw [key, IntKind.wrap_i64]
    omega
  rw [e]; omega

/-- The place of a cursor over b lies in b or at its end. -/
def At (b : List Int) (i : Int) : Prop := 0 ≤ i ∧ i ≤ (b.length : Int) ∧ (b.length : Int) ≤ 9223372036854775807

theorem new_loop (x : List Int) (d : Nat) : ∀ (h : Int) (i : Nat), i ≤ 4000 → 4000 - i = d →
    Tells (fun k => spec_l1New.l0 k x h (i : Int)) (fun r => r.1 = x ∧ r.2.1 = 0) := by
  induction d with
  | zero =>
    intro h i hi hd
    refine Tells.step (fun k => by rw [spec_l1New.l0]) ?_
    exact Tells.ite (fun _ => Tells.neg (by omega) (Tells.now ⟨rfl, rfl⟩)) (fun _ => Tells.now ⟨rfl, rfl⟩)
  | succ d ih =>
    intro h i hi hd
    refine Tells.step (fun k => by rw [spec_l1New.l0]) ?_
    refine Tells.ite (fun _ => Tells.ite (fun _ => Tells.pos (by omega) ?_) (fun _ => Tells.now ⟨rfl, rfl⟩)) (fun _ => Tells.now ⟨rfl, rfl⟩)
    rw [wrap64_id (x := (i : Int) + 1) (by omega) (by omega)]
    exact ih _ (i + 1) (by omega) (by omega)

theorem new_tells (x : List Int) (hx : x.length ≤ 9223372036854775807) : Tells (fun k => spec_l1New.f k x) (fun r => r.1 = x ∧ At x r.2.1) :=
  (new_loop x 4000 _ 0 (by omega) (by omega)).mono fun r hr => ⟨hr.1, by rw [hr.2]; exact ⟨by omega, by omega, by omega⟩⟩

theorem byte_some (b : List Int) (i h : Int) (hi : At b i) : ∃ r i' h', spec_l1Byte.f b i h = some (r, i', h') ∧ At b i' ∧ 0 ≤ r ∧ r ≤ 255 := by
  obtain ⟨h0, h1, h2⟩ := hi
  unfold spec_l1Byte.f
  by_cases hlt : i < (b.length : Int)
  · rw [if_pos hlt, if_pos h0]
    refine ⟨_, _, _, rfl, ?_, (and255 _).1, (and255 _).2⟩
    rw [wrap64_id (by omega) (by omega)]
    exact ⟨by omega, by omega, h2⟩
  · rw [if_neg hlt]
    exact ⟨_, _, _, rfl, ⟨h0, h1, h2⟩, (and255 _).1, (and255 _).2⟩

theorem below_some (b : List Int) (i h n : Int) (hi : At b i) : ∃ r i' h', spec_l1Below.f b i h n = some (r, i', h') ∧ At b i' ∧ 0 ≤ r ∧ (0 < n → r < n) ∧ (n ≤ 0 → r = 0) := by
  unfold spec_l1Below.f
  by_cases hn : n ≤ 0
  · rw [if_pos hn]
    exact ⟨0, i, h, rfl, hi, by omega, fun k => by omega, fun _ => rfl⟩
  · rw [if_neg hn]
    split
    · obtain ⟨r, i1, h1, e, hi1, hr0, hr1⟩ := byte_some b i h hi
      rw [e]; simp only [Option.bind_some]
      rw [if_neg (by omega)]
      exact ⟨_, _, _, rfl, hi1, Int.tmod_nonneg _ hr0, fun _ => Int.tmod_lt_of_pos _ (by omega), fun k => by omega⟩
    · obtain ⟨r1, i1, h1, e1, hi1, ha0, ha1⟩ := byte_some b i h hi
      obtain ⟨r2, i2, h2, e2, hi2, hb0, hb1⟩ := byte_some b i1 h1 hi1
      obtain ⟨r3, i3, h3, e3, hi3, hc0, hc1⟩ := byte_some b i2 h2 hi2
      obtain ⟨r4, i4, h4, e4, hi4, hd0, hd1⟩ := byte_some b i3 h3 hi3
      simp only [e1, e2, e3, e4, Option.bind_some]
      rw [if_neg (by omega)]
      refine ⟨_, _, _, rfl, hi4, Int.tmod_nonneg _ ?_, fun _ => Int.tmod_lt_of_pos _ (by omega), fun k => by omega⟩
      unfold wrap64; omega

theorem pick_some (b : List Int) (i h : Int) (l : List Int) (hi : At b i) (hl : 0 < l.length) : ∃ r i' h', spec_l1PickInt.f b i h l = some (r, i', h') ∧ At b i' ∧ r ∈ l := by
  unfold spec_l1PickInt.f
  obtain ⟨r, i1, h1, e, hi1, h0, hlt, _⟩ := below_some b i h l.length hi
  rw [e]; simp only [Option.bind_some]
  have := hlt (by omega)
  rw [if_pos h0, if_pos this]
  refine ⟨_, _, _, rfl, hi1, ?_⟩
  obtain ⟨m, rfl⟩ := Int.eq_ofNat_of_zero_le h0
  rw [rd_eq _ _ (by omega)]
  exact List.getElem_mem _

theorem int_loop (b : List Int) (d : Nat) : ∀ (x i h : Int) (j : Nat), At b i → j ≤ 8 → 8 - j = d →
    Tells (fun k => spec_l1int.l0 k x (j : Int) b i h) (fun r => At b r.2.1) := by
  induction d with
  | zero =>
    intro x i h j hi hj hd
    refine Tells.step (fun k => by rw [spec_l1int.l0]) ?_
    exact Tells.neg (by omega) (Tells.now hi)
  | succ d ih =>
    intro x i h j hi hj hd
    refine Tells.step (fun k => by rw [spec_l1int.l0]) ?_
    refine Tells.pos (by omega) ?_
    obtain ⟨r, i1, h1, e, hi1, _, _⟩ := byte_some b i h hi
    simp only [e, Option.bind_some]
    rw [wrap64_id (x := (j : Int) + 1) (by omega) (by omega)]
    exact ih _ _ _ (j + 1) hi1 (by omega) (by omega)

theorem int_tells (b : List Int) (i h : Int) (hi : At b i) : Tells (fun k => spec_l1int.f k b i h) (fun r => At b r.2.1) := by
  have part : ∀ (x : Int) (c : Bool) (i h : Int), At b i → Tells (fun k => spec_l1int.j0 k x c b i h) (fun r => At b r.2.1) := by
    intro x c i h hi
    refine Tells.step (fun k => by rw [spec_l1int.j0]) ?_
    refine Tells.ite (fun _ => ?_) (fun _ => Tells.ite (fun _ => ?_) (fun _ => int_loop b 8 0 i h 0 hi (by omega) (by omega)))
    · obtain ⟨r, i1, h1, e, hi1, _⟩ := below_some b i h 20 hi
      exact Tells.eq (by rw [e]; rfl) hi1
    · obtain ⟨r, i1, h1, e, hi1, _⟩ := below_some b i h 2147483647 hi
      exact Tells.eq (by rw [e]; rfl) hi1
  unfold spec_l1int.f
  obtain ⟨r, i1, h1, e, hi1, _⟩ := below_some b i h 5 hi
  simp only [e, Option.bind_some]
  refine Tells.ite (fun _ => ?_) (fun _ => Tells.ite (fun _ => part _ _ _ _ hi1) (fun _ => part _ _ _ _ hi1))
  obtain ⟨q, i2, h2, e2, hi2, _⟩ := pick_some b i1 h1 [0, 1, (-1), 2, 9223372036854775807, (-9223372036854775808), 2147483647, (-2147483648), 4611686018427387904, 9007199254740993] hi1 (by simp)
  exact Tells.eq (by rw [e2]; rfl) hi2

/-- An int of 64 bits. -/
def InR (n : Int) : Prop := -9223372036854775808 ≤ n ∧ n ≤ 9223372036854775807
theorem inR_wrap (n : Int) : InR (wrap64 n) := by unfold InR wrap64; omega
theorem inR_or (x y : Int) : InR (Go.bits .or .i64 x y) := by
  show InR (IntKind.i64.wrap _)
  rw [IntKind.wrap_i64]; unfold InR; omega

theorem int_range_loop (b : List Int) (d : Nat) : ∀ (x i h : Int) (j : Nat), InR x → At b i → j ≤ 8 → 8 - j = d →
    Tells (fun k => spec_l1int.l0 k x (j : Int) b i h) (fun r => At b r.2.1 ∧ InR r.1) := by
  induction d with
  | zero =>
    intro x i h j hx hi hj hd
    refine Tells.step (fun k => by rw [spec_l1int.l0]) ?_
    exact Tells.neg (by omega) (Tells.now ⟨hi, hx⟩)
  | succ d ih =>
    intro x i h j hx hi hj hd
    refine Tells.step (fun k => by rw [spec_l1int.l0]) ?_
    refine Tells.pos (by omega) ?_
    obtain ⟨r, i1, h1, e, hi1, _, _⟩ := byte_some b i h hi
    simp only [e, Option.bind_some]
    rw [wrap64_id (x := (j : Int) + 1) (by omega) (by omega)]
    exact ih _ _ _ (j + 1) (inR_or _ _) hi1 (by omega) (by omega)

theorem int_range (b : List Int) (i h : Int) (hi : At b i) : ∃ k r, spec_l1int.f k b i h = some r ∧ At b r.2.1 ∧ InR r.1 := by
  have part : ∀ (x : Int) (c : Bool) (i h : Int), At b i → Tells (fun k => spec_l1int.j0 k x c b i h) (fun r => At b r.2.1 ∧ InR r.1) := by
    intro x c i h hi
    refine Tells.step (fun k => by rw [spec_l1int.j0]) ?_
    refine Tells.ite (fun _ => ?_) (fun _ => Tells.ite (fun _ => ?_) (fun _ => int_range_loop b 8 0 i h 0 (by unfold InR; omega) hi (by omega) (by omega)))
    · obtain ⟨r, i1, h1, e, hi1, _⟩ := below_some b i h 20 hi
      exact Tells.eq (by rw [e]; rfl) ⟨hi1, inR_wrap _⟩
    · obtain ⟨r, i1, h1, e, hi1, ha, hb, _⟩ := below_some b i h 2147483647 hi
      exact Tells.eq (by rw [e]; rfl) ⟨hi1, by unfold InR; have := hb (by decide); omega⟩
  have all : Tells (fun k => spec_l1int.f k b i h) (fun r => At b r.2.1 ∧ InR r.1) := by
    unfold spec_l1int.f
    obtain ⟨r, i1, h1, e, hi1, _⟩ := below_some b i h 5 hi
    simp only [e, Option.bind_some]
    refine Tells.ite (fun _ => ?_) (fun _ => Tells.ite (fun _ => part _ _ _ _ hi1) (fun _ => part _ _ _ _ hi1))
    obtain ⟨q, i2, h2, e2, hi2, hm⟩ := pick_some b i1 h1 [0, 1, (-1), 2, 9223372036854775807, (-9223372036854775808), 2147483647, (-2147483648), 4611686018427387904, 9007199254740993] hi1 (by simp)
    refine Tells.eq (by rw [e2]; rfl) ⟨hi2, ?_⟩
    simp only [List.mem_cons, List.not_mem_nil, or_false] at hm
    show InR q
    unfold InR; omega
  obtain ⟨r, h, K, hK⟩ := all
  exact ⟨K, r, hK K (Nat.le_refl _), h⟩

end Go.Proofs.Ytpgefgbenojjfaa.CurFnArith
