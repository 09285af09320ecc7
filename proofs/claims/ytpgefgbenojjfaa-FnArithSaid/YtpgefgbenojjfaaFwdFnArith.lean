/- The drawn cursor as one predicate, and the contracts of the drawing functions of seat a by it: each answers, and the cursor stays one. -/
import Derived.Test.YtpgefgbenojjfaaQFnArithx
import Derived.Test.YtpgefgbenojjfaaFwi
import Derived.Test.YtpgefgbenojjfaaAid
import Derived.Test.YtpgefgbenojjfaaFwcFnArith
namespace Go.Proofs.Ytpgefgbenojjfaa.FdFnArith
open Go.RowKit Go.Proofs.Ytpgefgbenojjfaa.QFnArith Go.Proofs.YtpgefgbenojjfaaW.PrintWords Go.Proofs.YtpgefgbenojjfaaW.PrintLast Go.Proofs.Ytpgefgbenojjfaa.Aid Go.Proofs.Ytpgefgbenojjfaa.Fl Go.Proofs.Ytpgefgbenojjfaa.Fw Go.Proofs.Ytpgefgbenojjfaa.CurFnArith

def Cu (w0 : World) (g : Nat) (s : List Int) (W : World) : Prop := ∃ i h, IsS51 w0 W g s i h ∧ At s i ∧ Below w0.heap.size w0 W
theorem Cu.drewN {w0 W : World} {g : Nat} {s : List Int} (h : Cu w0 g s W) (m : Nat) : Cu w0 g s (W.drewN m) := by
  obtain ⟨i, k, a, b, c⟩ := h
  exact ⟨i, k, a.drewN m, b, pw_below_drewN c m⟩
theorem Cu.below {w0 W : World} {g : Nat} {s : List Int} (h : Cu w0 g s W) : Below w0.heap.size w0 W := by
  obtain ⟨i, k, a, b, c⟩ := h
  exact c
theorem Cu.step {w0 W W' : World} {g : Nat} {s : List Int} (h : Cu w0 g s W) (hb : Below W.heap.size W W') : Cu w0 g s W' := by
  obtain ⟨i, k, a, b, c⟩ := h
  exact ⟨i, k, a.below hb, b, below_step c hb⟩

theorem below_c (w0 : World) (g : Nat) (s : List Int) (n : Int) (hn : 0 < n) (W : World) (h : Cu w0 g s W) : Calls Try.prog 36 #[.pointer (some ⟨g, 0, none⟩), .int .i64 n] W fun e W' => ∃ r, e = .returned (.int .i64 r) ∧ (0 ≤ r ∧ r < n) ∧ Cu w0 g s W' := by
  obtain ⟨i, k, a, b, c⟩ := h
  obtain ⟨r, i1, k1, e1, h1, r0, r1, _⟩ := below_some s i k n b
  exact (spec_l1Below.calls g s i k n r i1 k1 w0 W a c e1).mono fun e W' ⟨x1, x2, x3, _⟩ => ⟨r, x1, ⟨r0, r1 hn⟩, i1, k1, x2, h1, x3⟩
theorem pick_c (w0 : World) (g : Nat) (s : List Int) (A1 : Option Addr) (c1 : Nat) (l : List Int) (hl : 0 < l.length) (W : World) (h : Cu w0 g s W) (hr1 : Kd.C (Kd.int .i64) W A1 l.length l) (hc1 : l.length ≤ c1) (hf1 : ∀ ad, A1 = some ad → 0 < l.length → ad.block ≠ g) :
    Calls Try.prog 38 #[.pointer (some ⟨g, 0, none⟩), .slice A1 l.length c1] W fun e W' => ∃ r, e = .returned (.int .i64 r) ∧ r ∈ l ∧ Cu w0 g s W' := by
  obtain ⟨i, k, a, b, c⟩ := h
  obtain ⟨r, i1, k1, e1, h1, hm⟩ := pick_some s i k l b hl
  exact (spec_l1PickInt.calls g s i k A1 c1 l r i1 k1 w0 W a c hr1 hc1 hf1 e1).mono fun e W' ⟨x1, x2, x3, _⟩ => ⟨r, x1, hm, i1, k1, x2, h1, x3⟩
theorem int_c (w0 : World) (g : Nat) (s : List Int) (W : World) (h : Cu w0 g s W) : Calls Try.prog 35 #[.pointer (some ⟨g, 0, none⟩)] W fun e W' => ∃ r, e = .returned (.int .i64 r) ∧ InR r ∧ Cu w0 g s W' := by
  obtain ⟨i, k, a, b, c⟩ := h
  obtain ⟨K, ⟨r, i1, k1⟩, e1, h1⟩ := int_range s i k b
  exact (spec_l1int.calls K g s i k r i1 k1 w0 W a c e1).mono fun e W' ⟨x1, x2, x3, _⟩ => ⟨r, x1, h1.2, i1, k1, x2, h1.1, x3⟩
theorem new_c (w0 : World) (A0 : Option Addr) (c0 : Nat) (s : List Int) (W : World) (hB : Below w0.heap.size w0 W) (hr0 : Kd.C (Kd.int .u8) w0 A0 s.length s) (hc0 : s.length ≤ c0) (hs : s.length ≤ 9223372036854775807) : Calls Try.prog 34 #[.slice A0 s.length c0] W fun e W' => ∃ g, e = .returned (.pointer (some ⟨g, 0, none⟩)) ∧ Cu w0 g s W' := by
  obtain ⟨⟨r1, i1, k1⟩, h1, K, hK⟩ := new_tells s hs
  have e1 := hK K (Nat.le_refl _)
  have h3 : r1 = s := h1.1
  have h2 : At s i1 := h1.2
  clear hK h1
  subst h3
  exact (spec_l1New.calls K A0 c0 _ _ i1 k1 w0 W hB hr0 hc0 e1).mono fun e W' ⟨g, x1, x2, x3, _⟩ => ⟨g, x1, i1, k1, x2, h2, x3⟩

theorem bitsOf_in (x : Nat) : InR (bitsOf x) := by
  unfold bitsOf InR
  split
  · omega
  · unfold wrap64; omega

set_option maxHeartbeats 2000000 in
theorem bits_c (w0 : World) (g : Nat) (s : List Int) (W : World) (h : Cu w0 g s W) : Calls Try.prog 33 #[.pointer (some ⟨g, 0, none⟩)] W fun e W' => ∃ r, e = .returned (.int .i64 r) ∧ InR r ∧ Cu w0 g s W' := by
  have HC := Lib.hid h
  clear h
  obtain ⟨R, NQ, hR, hrun⟩ : ∃ (R NQ : World → Nat → Nat → Nat), (∀ w x y, R w x y < 2 ^ 64) ∧ ∀ w x y, (binOp .quo 23 (.float .f64 x) (.float .f64 y)).run Try.prog w = .ok (.float .f64 (R w x y)) (w.drewN (NQ w x y)) :=
    ⟨fun w x y => Classical.choose (op_some .quo (.inr (.inr (.inr rfl))) x y w), fun w x y => Classical.choose (Classical.choose_spec (op_some .quo (.inr (.inr (.inr rfl))) x y w)),
     fun w x y => (Classical.choose_spec (Classical.choose_spec (op_some .quo (.inr (.inr (.inr rfl))) x y w))).1, fun w x y => (Classical.choose_spec (Classical.choose_spec (op_some .quo (.inr (.inr (.inr rfl))) x y w))).2.2⟩
  have HR := Lib.hid hR
  clear hR
  go_enter Try.func33, Try.ntmps33
  go_wp2_with fail
  refine (below_c w0 g s 5 (by decide) _ HC.out).mono ?_
  clear HC
  rintro e w1 ⟨t, rfl, _, hC⟩
  have HC := Lib.hid hC
  clear hC
  by_cases c0 : t = 0
  · subst c0
    obtain ⟨y1, hy1⟩ : ∃ y_ : List Int, y_ = ([0, (-9223372036854775808), 1, (-9223372036854775807), 9218868437227405312, (-4503599627370496), 9221120237041090561, 9221120237041090560, (-1), 9218868437227405311, 4503599627370496, 4890909195324358656, (-4332462841530417152), 4602678819172646912, 4890909195324358655] : List Int) := ⟨_, rfl⟩
    have Ny1 := Lib.hid hy1
    clear hy1
    go_wp2_with (first | ((with_reducible refine gate_dst (N := 8) rfl ?_); refine Kd.R_lit (Kd.int .i64) _ 3 ?hg (N := 8) ?hd (xs := ([0, (-9223372036854775808), 1, (-9223372036854775807), 9218868437227405312, (-4503599627370496), 9221120237041090561, 9221120237041090560, (-1), 9218868437227405311, 4503599627370496, 4890909195324358656, (-4332462841530417152), 4602678819172646912, 4890909195324358655] : List Int)) (inner := [.int .i64 0, .int .i64 (-9223372036854775808), .int .i64 1, .int .i64 (-9223372036854775807), .int .i64 9218868437227405312, .int .i64 (-4503599627370496), .int .i64 9221120237041090561, .int .i64 9221120237041090560, .int .i64 (-1), .int .i64 9218868437227405311, .int .i64 4503599627370496, .int .i64 4890909195324358656, .int .i64 (-4332462841530417152), .int .i64 4602678819172646912, .int .i64 4890909195324358655]) (ok := fun _ => True) (okp := fun _ => True) ?hr ?hp (fun _ hk => hk) trivial (Below.refl _ _) (Nat.le_refl _) (by simp) ?_; (case hd => rfl); (case hg => rfl); (case hr => first | (go_simp; done) | (go_simp; rfl)); (case hp => repeat (first | exact Reps.none _ _ | refine Reps.one (show Kd.M (Kd.int .i64) _ _ _ _ [.int .i64 _] from rfl) ?_)); intro v125 w6 ho7 hb hg_ hnew_; clear hg_ hnew_; (first | rw [← Ny1.out] at ho7 | (simp only [Int.reduceToNat] at ho7; rw [← Ny1.out] at ho7)); have n1_ := Lib.hid (Cu.step HC.out hb); have HO := Lib.hid ho7; clear HC; have HC := n1_; clear n1_ hb ho7; obtain ⟨Ao8, co8, eo8⟩ := Kd.R_slice HO.out; subst eo8) | (go_at_call 38; refine (pick_c w0 g s Ao8 co8 y1 (by rw [Ny1.out]; decide) _ HC.out (Kd.R_reads' HO.out).2.2 (Kd.R_reads' HO.out).2.1 (by obtain ⟨i, k, hi, _⟩ := HC.out; exact far_slice (IsS51.own_ne hi HO.out (by decide)))).mono ?_; rintro e w9 ⟨r, rfl, hm, hC⟩))
    go_ret
    exact ⟨r, rfl, by rw [Ny1.out] at hm; unfold InR; simp only [List.mem_cons, List.not_mem_nil, or_false] at hm; omega, hC⟩
  have b0 : (t == 0) = false := beq_eq_false_iff_ne.2 c0
  by_cases c1 : t = 1
  · subst c1
    clear c0 b0
    go_wp2_with (first | (go_at_call 36; refine (below_c w0 g s 20 (by decide) _ HC.out).mono ?_; clear HC; rintro e w3 ⟨t2, rfl, _, hC⟩; have HC := Lib.hid hC; clear hC) | (go_at_call 17; refine (specFromInt _ _).mono ?_; rintro e w' ⟨rfl, rfl⟩))
    go_ret
    exact ⟨_, rfl, bitsOf_in _, HC.out⟩
  have b1 : (t == 1) = false := beq_eq_false_iff_ne.2 c1
  by_cases c2 : t = 2
  · subst c2
    clear c0 b0 c1 b1
    go_wp2_with fail
    refine (below_c w0 g s 4000 (by decide) _ HC.out).mono ?_
    clear HC
    rintro e w3 ⟨t2, rfl, _, hC⟩
    have HC := Lib.hid hC
    clear hC
    go_wp2_with (go_at_call 15; refine (specBits _ (HR.out _ _ _) _).mono ?_; rintro e w' ⟨rfl, rfl⟩)
    go_ret
    exact ⟨_, rfl, bitsOf_in _, HC.out.drewN _⟩
  have b2 : (t == 2) = false := beq_eq_false_iff_ne.2 c2
  by_cases c3 : t = 3
  · subst c3
    clear c0 b0 c1 b1 c2 b2
    go_wp2_with fail
    refine (int_c w0 g s _ HC.out).mono ?_
    rintro e w3 ⟨t2, rfl, hi, hC⟩
    go_wp2
    go_ret
    exact ⟨_, rfl, hi, hC⟩
  have b3 : (t == 3) = false := beq_eq_false_iff_ne.2 c3
  clear c0 c1 c2 c3
  go_wp2_with fail
  refine (int_c w0 g s _ HC.out).mono ?_
  clear HC
  rintro e w3 ⟨t2, rfl, _, hC⟩
  have HC := Lib.hid hC
  clear hC
  go_wp2_with fail
  refine (below_c w0 g s 1000 (by decide) _ HC.out).mono ?_
  clear HC
  rintro e w4 ⟨t3, rfl, _, hC⟩
  have HC := Lib.hid hC
  clear hC
  go_wp2_with (go_at_call 15; refine (specBits _ (HR.out _ _ _) _).mono ?_; rintro e w' ⟨rfl, rfl⟩)
  go_ret
  exact ⟨_, rfl, bitsOf_in _, HC.out.drewN _⟩

end Go.Proofs.Ytpgefgbenojjfaa.FdFnArith
