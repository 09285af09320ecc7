/- The law FnArith, walked. -/
import Derived.Test.YtpgefgbenojjfaaFwdFnArith
import Derived.Test.YtpgefgbenojjfaaFwk
namespace Go.Proofs.Ytpgefgbenojjfaa.FdFnArith
open Go.RowKit Go.Proofs.Ytpgefgbenojjfaa.QFnArith Go.Proofs.YtpgefgbenojjfaaW.PrintWords Go.Proofs.YtpgefgbenojjfaaW.PrintLast Go.Proofs.Ytpgefgbenojjfaa.Aid Go.Proofs.Ytpgefgbenojjfaa.Fl Go.Proofs.Ytpgefgbenojjfaa.Fw Go.Proofs.Ytpgefgbenojjfaa.CurFnArith

theorem once_some (b : List Int) (i h n : Int) (hi : At b i) : ∃ r i' h', spec_l1Once.f b i h n = some (r, i', h') ∧ At b i' := by
  unfold spec_l1Once.f
  obtain ⟨r, i1, h1, e, hi1, _⟩ := below_some b i h n hi
  rw [e]; exact ⟨_, _, _, rfl, hi1⟩
theorem once_c (w0 : World) (g : Nat) (s : List Int) (n : Int) (W : World) (h : Cu w0 g s W) : Calls Try.prog 37 #[.pointer (some ⟨g, 0, none⟩), .int .i64 n] W fun e W' => ∃ r, e = .returned (.bool r) ∧ Cu w0 g s W' := by
  obtain ⟨i, k, a, b, c⟩ := h
  obtain ⟨r, i1, k1, e1, h1⟩ := once_some s i k n b
  exact (spec_l1Once.calls g s i k n r i1 k1 w0 W a c e1).mono fun e W' ⟨x1, x2, x3, _⟩ => ⟨r, x1, i1, k1, x2, h1, x3⟩

set_option maxHeartbeats 4000000 in
theorem drawArith27 (w0 : World) (A0 : Option Addr) (c0 : Nat) (s : List Int) (W : World) (hB : Below w0.heap.size w0 W) (hr0 : Kd.C (Kd.int .u8) w0 A0 s.length s) (hc0 : s.length ≤ c0) (hs : s.length ≤ 9223372036854775807) :
    Calls Try.prog 27 #[.slice A0 s.length c0] W fun e W' => ∃ p a b, e = .returned (.tuple #[.int .i64 p, .int .i64 a, .int .i64 b]) ∧ Below w0.heap.size w0 W' := by
  go_enter Try.func27, Try.ntmps27
  go_wp2_with fail
  refine (new_c w0 A0 c0 s _ hB hr0 hc0 hs).mono ?_
  clear hB hr0 hc0 hs
  rintro e w1 ⟨g, rfl, hC⟩
  have HC := Lib.hid hC
  clear hC
  go_wp2_with fail
  refine (below_c w0 g s 6 (by decide) _ HC.out).mono ?_
  clear HC
  rintro e w2 ⟨p, rfl, _, hC⟩
  have HC := Lib.hid hC
  clear hC
  go_wp2_with fail
  refine (once_c w0 g s 15 _ HC.out).mono ?_
  clear HC
  rintro e w3 ⟨q, rfl, hC⟩
  have HC := Lib.hid hC
  clear hC
  cases q
  · go_wp2_with fail
    refine (bits_c w0 g s _ HC.out).mono ?_
    clear HC
    rintro e w4 ⟨a, rfl, _, hC⟩
    have HC := Lib.hid hC
    clear hC
    go_wp2_with fail
    refine (bits_c w0 g s _ HC.out).mono ?_
    clear HC
    rintro e w5 ⟨b, rfl, _, hC⟩
    have HC := Lib.hid hC
    clear hC
    go_wp2_with fail
    refine (once_c w0 g s 4 _ HC.out).mono ?_
    clear HC
    rintro e w6 ⟨q2, rfl, hC⟩
    have HC := Lib.hid hC
    clear hC
    cases q2
    · go_wp2
      go_ret3
      exact ⟨_, _, _, rfl, HC.out.below⟩
    · go_wp2
      go_ret3
      exact ⟨_, _, _, rfl, HC.out.below⟩
  · obtain ⟨y1, hy1⟩ : ∃ y_ : List Int, y_ = ([(-1), 6, 4611686018427387904] : List Int) := ⟨_, rfl⟩
    have Ny1 := Lib.hid hy1
    clear hy1
    go_wp2_with (first | ((with_reducible refine gate_dst (N := 16) rfl ?_); refine Kd.R_lit (Kd.int .i64) _ 3 ?hg (N := 16) ?hd (xs := ([(-1), 6, 4611686018427387904] : List Int)) (inner := [.int .i64 (-1), .int .i64 6, .int .i64 4611686018427387904]) (ok := fun _ => True) (okp := fun _ => True) ?hr ?hp (fun _ hk => hk) trivial (Below.refl _ _) (Nat.le_refl _) (by simp) ?_; (case hd => rfl); (case hg => rfl); (case hr => first | (go_simp; done) | (go_simp; rfl)); (case hp => repeat (first | exact Reps.none _ _ | refine Reps.one (show Kd.M (Kd.int .i64) _ _ _ _ [.int .i64 _] from rfl) ?_)); intro v125 w6 ho7 hb hg_ hnew_; clear hg_ hnew_; (first | rw [← Ny1.out] at ho7 | (simp only [Int.reduceToNat] at ho7; rw [← Ny1.out] at ho7)); have n1_ := Lib.hid (Cu.step HC.out hb); have HO := Lib.hid ho7; clear HC; have HC := n1_; clear n1_ hb ho7; obtain ⟨Ao8, co8, eo8⟩ := Kd.R_slice HO.out; subst eo8) | (go_at_call 38; refine (pick_c w0 g s Ao8 co8 y1 (by rw [Ny1.out]; decide) _ HC.out (Kd.R_reads' HO.out).2.2 (Kd.R_reads' HO.out).2.1 (by obtain ⟨i, k, hi, _⟩ := HC.out; exact far_slice (IsS51.own_ne hi HO.out (by decide)))).mono ?_; rintro e w9 ⟨r, rfl, _, hC⟩; have n1_ := Lib.hid hC; clear HC hC HO; have HC := n1_; clear n1_))
    refine (bits_c w0 g s _ HC.out).mono ?_
    clear HC
    rintro e w4 ⟨a, rfl, _, hC⟩
    have HC := Lib.hid hC
    clear hC
    go_wp2_with fail
    refine (bits_c w0 g s _ HC.out).mono ?_
    clear HC
    rintro e w5 ⟨b, rfl, _, hC⟩
    have HC := Lib.hid hC
    clear hC
    go_wp2_with fail
    refine (once_c w0 g s 4 _ HC.out).mono ?_
    clear HC
    rintro e w6 ⟨q2, rfl, hC⟩
    have HC := Lib.hid hC
    clear hC
    cases q2
    · go_wp2
      go_ret3
      exact ⟨_, _, _, rfl, HC.out.below⟩
    · go_wp2
      go_ret3
      exact ⟨_, _, _, rfl, HC.out.below⟩

/-- How two words stand: what the law's three comparisons answer. -/
theorem cases_of (x y : Nat) (hx : x < 2 ^ 64) (hy : y < 2 ^ 64) : ∃ l g e : Int,
    (if FloatKind.f64.format.order x y == some .lt then (1 : Int) else 0) = l ∧ (if FloatKind.f64.format.order y x == some .lt then (1 : Int) else 0) = g ∧ (if FloatKind.f64.format.order x y == some .eq then (1 : Int) else 0) = e ∧
    ((isNan x = true ∧ l = 0 ∧ g = 0 ∧ e = 0) ∨ (isNan x = false ∧ isNan y = true ∧ l = 0 ∧ g = 0 ∧ e = 0) ∨
     (isNan x = false ∧ isNan y = false ∧ ((l = 1 ∧ g = 0 ∧ e = 0) ∨ (l = 0 ∧ g = 1 ∧ e = 0) ∨ (l = 0 ∧ g = 0 ∧ e = 1)))) := by
  refine ⟨_, _, _, rfl, rfl, rfl, ?_⟩
  rw [order_swap x y]
  cases nx : isNan x
  · cases ny : isNan y
    · refine .inr (.inr ⟨rfl, rfl, ?_⟩)
      obtain ⟨o, ho⟩ := order_num hx hy nx ny
      rw [ho]
      cases o
      · exact .inl ⟨rfl, rfl, rfl⟩
      · exact .inr (.inr ⟨rfl, rfl, rfl⟩)
      · exact .inr (.inl ⟨rfl, rfl, rfl⟩)
    · have h : FloatKind.f64.format.order x y = none := order_nan_right hy ny
      rw [h]; exact .inr (.inl ⟨rfl, rfl, rfl, rfl, rfl⟩)
  · have h : FloatKind.f64.format.order x y = none := order_nan_left hx nx
    rw [h]; exact .inl ⟨rfl, rfl, rfl, rfl⟩

theorem self_of (x : Nat) (hx : x < 2 ^ 64) (s : Bool) (h : isNan x = s) : (if FloatKind.f64.format.order x x == some .eq then (1 : Int) else 0) = if s then 0 else 1 := by
  cases s
  · have e : FloatKind.f64.format.order x x = some .eq := order_self hx h
    rw [e]; rfl
  · have e : FloatKind.f64.format.order x x = none := order_nan_left hx h
    rw [e]; rfl

theorem neg_lt {y : Nat} (hy : y < 2 ^ 64) : Op.negFloat .f64 y < 2 ^ 64 := by
  obtain ⟨s, r, rfl, hr⟩ := word_of y hy
  rw [neg_of_word s r hr]; exact (word_mod _ hr).2.2

/-- A difference is the sum with the opposite's bits. -/
theorem sub_bits (x y z : Nat) (hz : z < 2 ^ 64) (h : SameW y z) : bitsRes (floatBits .add .f64 x (wordOf (bitsOf (Op.negFloat .f64 y)))) = bitsRes (floatBits .sub .f64 x z) := by
  obtain ⟨hy, hc⟩ := h
  obtain ⟨s, r, rfl, hr⟩ := word_of y hy
  have hl : Ieee.double.word (!s) r < 2 ^ 64 := (word_mod _ hr).2.2
  rw [neg_of_word s r hr]
  rcases hc with ⟨nz, ny⟩ | ⟨nz, rfl⟩
  · have n2 : isNan (Ieee.double.word (!s) r) = true := by rw [isNan_word _ hr]; rw [isNan_word _ hr] at ny; exact ny
    have e : bitsOf (Ieee.double.word (!s) r) = 9221120237041090561 := by unfold bitsOf; rw [n2]; rfl
    rw [e, nan_bits_right .add (wordOf_lt _) (by decide), nan_bits_right .sub hz nz]
  · have n2 : isNan (Ieee.double.word (!s) r) = false := by rw [isNan_word _ hr]; rw [isNan_word _ hr] at nz; exact nz
    rw [wordOf_bits0 hl n2, sub_word x s hr]

theorem at_add (a b : Int) (w : World) (q : Int) (h : bitsRes (floatBits .add .f64 (wordOf a) (wordOf b)) = q) : Calls Try.prog 22 #[.int .i64 0, .int .i64 a, .int .i64 b] w (Gives q w) := by rw [← h]; exact implArith0 a b w
theorem at_sub (a b : Int) (w : World) (q : Int) (h : bitsRes (floatBits .sub .f64 (wordOf a) (wordOf b)) = q) : Calls Try.prog 22 #[.int .i64 1, .int .i64 a, .int .i64 b] w (Gives q w) := by rw [← h]; exact implArith1 a b w
theorem at_mul (a b : Int) (w : World) (q : Int) (h : bitsRes (floatBits .mul .f64 (wordOf a) (wordOf b)) = q) : Calls Try.prog 22 #[.int .i64 2, .int .i64 a, .int .i64 b] w (Gives q w) := by rw [← h]; exact implArith2 a b w
theorem at_less (a b : Int) (w : World) (q : Int) (h : (if FloatKind.f64.format.order (wordOf a) (wordOf b) == some .lt then (1 : Int) else 0) = q) : Calls Try.prog 22 #[.int .i64 4, .int .i64 a, .int .i64 b] w (Gives q w) := by rw [← h]; exact implArith4 a b w
theorem at_same (a b : Int) (w : World) (q : Int) (h : (if FloatKind.f64.format.order (wordOf a) (wordOf b) == some .eq then (1 : Int) else 0) = q) : Calls Try.prog 22 #[.int .i64 5, .int .i64 a, .int .i64 b] w (Gives q w) := by rw [← h]; exact implArith5 a b w
theorem at_nine (a b : Int) (w : World) : Calls Try.prog 22 #[.int .i64 9, .int .i64 a, .int .i64 b] w (Gives 0 w) := implArith6 9 a b (by decide) (by decide) (by decide) (by decide) (by decide) (by decide) w

set_option maxHeartbeats 4000000 in
theorem law_N (w0 : World) (A0 : Option Addr) (c0 : Nat) (s : List Int) (W : World) (hB : Below w0.heap.size w0 W) (hr0 : Kd.C (Kd.int .u8) w0 A0 s.length s) (hc0 : s.length ≤ c0) (hs : s.length ≤ 9223372036854775807) :
    Calls Try.prog 11 #[.slice A0 s.length c0] W fun e W' => e = .returned (.bool true) ∧ Below w0.heap.size w0 W' := by
  go_enter Try.func11, Try.ntmps11
  go_wp2_with fail
  refine (drawArith27 w0 A0 c0 s _ hB hr0 hc0 hs).mono ?_
  clear hB hr0 hc0 hs
  rintro e w1 ⟨p, a, b, rfl, hB⟩
  have HB := Lib.hid hB
  clear hB
  have hng := neg_run
  obtain ⟨S, hS⟩ : ∃ S, bitsRes (floatBits .add .f64 (wordOf a) (wordOf b)) = S := ⟨_, rfl⟩
  obtain ⟨M, hM⟩ : ∃ M, bitsRes (floatBits .mul .f64 (wordOf a) (wordOf b)) = M := ⟨_, rfl⟩
  obtain ⟨D, hD⟩ : ∃ D, bitsRes (floatBits .sub .f64 (wordOf a) (wordOf b)) = D := ⟨_, rfl⟩
  have HS := Lib.hid hS
  have HM := Lib.hid hM
  have HD := Lib.hid hD
  clear hS hM hD
  obtain ⟨l, g, q, hl, hg, hq, hc⟩ := cases_of (wordOf a) (wordOf b) (wordOf_lt a) (wordOf_lt b)
  have HL := Lib.hid hl
  have HG := Lib.hid hg
  have HE := Lib.hid hq
  clear hl hg hq
  rcases hc with ⟨nx, rfl, rfl, rfl⟩ | ⟨nx, ny, rfl, rfl, rfl⟩ | ⟨nx, ny, ⟨rfl, rfl, rfl⟩ | ⟨rfl, rfl, rfl⟩ | ⟨rfl, rfl, rfl⟩⟩
  · have XN := Lib.hid nx
    clear nx
    go_wp2_with fail
    refine (at_add a b _ S HS.out).mono ?_
    rintro e w' ⟨n1, rfl, rfl⟩
    go_wp2_with fail
    refine (at_add b a _ S (by rw [add_comm]; exact HS.out)).mono ?_
    rintro e w' ⟨n2, rfl, rfl⟩
    go_wp2_with fail
    refine (at_mul a b _ M HM.out).mono ?_
    rintro e w' ⟨n3, rfl, rfl⟩
    go_wp2_with fail
    refine (at_mul b a _ M (by rw [mul_comm]; exact HM.out)).mono ?_
    rintro e w' ⟨n4, rfl, rfl⟩
    clear HS HM
    go_wp2_with fail
    refine (specFloat_N a _ XN.out).mono ?_
    rintro e w' ⟨x, n5, rfl, hox, rfl⟩
    go_wp2_with fail
    refine (at_less a b _ _ HL.out).mono ?_
    rintro e w' ⟨n6, rfl, rfl⟩
    go_wp2_with fail
    refine (at_less b a _ _ HG.out).mono ?_
    rintro e w' ⟨n7, rfl, rfl⟩
    go_wp2_with fail
    refine (at_same a b _ _ HE.out).mono ?_
    rintro e w' ⟨n8, rfl, rfl⟩
    clear HL HG HE
    go_wp2_with fail
    refine (specFloat b _).mono ?_
    rintro e w' ⟨y, n9, rfl, hy, rfl⟩
    have HY := Lib.hid hy
    clear hy
    go_wp2_with fail
    refine (at_same a a _ _ (self_of _ (wordOf_lt a) _ XN.out)).mono ?_
    rintro e w' ⟨na, rfl, rfl⟩
    go_wp2_with fail
    refine (at_nine a b _).mono ?_
    rintro e w' ⟨nb, rfl, rfl⟩
    go_wp2_with fail
    refine (at_sub a b _ D HD.out).mono ?_
    rintro e w' ⟨nc, rfl, rfl⟩
    go_wp2_with fail
    refine (implBits _ (neg_lt HY.out.1) _).mono ?_
    rintro e w' ⟨rfl, rfl⟩
    go_wp2_with fail
    refine (at_add a _ _ D ((sub_bits _ y _ (wordOf_lt b) HY.out).trans HD.out)).mono ?_
    rintro e w' ⟨nd, rfl, rfl⟩
    go_wp2
    go_ret
    exact ⟨rfl, by repeat (first | exact HB.out | refine pw_below_drewN ?_ _)⟩
  · have XN := Lib.hid nx
    have hox : FloatKind.f64.format.order (wordOf a) (wordOf a) = some .eq := order_self (wordOf_lt a) nx
    have YN := Lib.hid ny
    clear nx ny
    go_wp2_with fail
    refine (at_add a b _ S HS.out).mono ?_
    rintro e w' ⟨n1, rfl, rfl⟩
    go_wp2_with fail
    refine (at_add b a _ S (by rw [add_comm]; exact HS.out)).mono ?_
    rintro e w' ⟨n2, rfl, rfl⟩
    go_wp2_with fail
    refine (at_mul a b _ M HM.out).mono ?_
    rintro e w' ⟨n3, rfl, rfl⟩
    go_wp2_with fail
    refine (at_mul b a _ M (by rw [mul_comm]; exact HM.out)).mono ?_
    rintro e w' ⟨n4, rfl, rfl⟩
    clear HS HM
    go_wp2_with fail
    refine (specFloat_F a _ XN.out).mono ?_
    rintro e w' ⟨n5, rfl, rfl⟩
    go_wp2_with fail
    refine (at_less a b _ _ HL.out).mono ?_
    rintro e w' ⟨n6, rfl, rfl⟩
    go_wp2_with fail
    refine (at_less b a _ _ HG.out).mono ?_
    rintro e w' ⟨n7, rfl, rfl⟩
    go_wp2_with fail
    refine (at_same a b _ _ HE.out).mono ?_
    rintro e w' ⟨n8, rfl, rfl⟩
    clear HL HG HE
    go_wp2_with fail
    refine (specFloat b _).mono ?_
    rintro e w' ⟨y, n9, rfl, hy, rfl⟩
    have hoy : FloatKind.f64.format.order y y = none := order_nan_left hy.1 (by rcases hy.2 with ⟨_, h⟩ | ⟨h, _⟩; exact h; rw [YN.out] at h; cases h)
    have HY := Lib.hid hy
    clear hy
    go_wp2_with fail
    refine (at_same a a _ _ (self_of _ (wordOf_lt a) _ XN.out)).mono ?_
    rintro e w' ⟨na, rfl, rfl⟩
    go_wp2_with fail
    refine (at_nine a b _).mono ?_
    rintro e w' ⟨nb, rfl, rfl⟩
    go_wp2_with fail
    refine (at_sub a b _ D HD.out).mono ?_
    rintro e w' ⟨nc, rfl, rfl⟩
    go_wp2_with fail
    refine (implBits _ (neg_lt HY.out.1) _).mono ?_
    rintro e w' ⟨rfl, rfl⟩
    go_wp2_with fail
    refine (at_add a _ _ D ((sub_bits _ y _ (wordOf_lt b) HY.out).trans HD.out)).mono ?_
    rintro e w' ⟨nd, rfl, rfl⟩
    go_wp2
    go_ret
    exact ⟨rfl, by repeat (first | exact HB.out | refine pw_below_drewN ?_ _)⟩
  · have XN := Lib.hid nx
    have hox : FloatKind.f64.format.order (wordOf a) (wordOf a) = some .eq := order_self (wordOf_lt a) nx
    have YN := Lib.hid ny
    clear nx ny
    go_wp2_with fail
    refine (at_add a b _ S HS.out).mono ?_
    rintro e w' ⟨n1, rfl, rfl⟩
    go_wp2_with fail
    refine (at_add b a _ S (by rw [add_comm]; exact HS.out)).mono ?_
    rintro e w' ⟨n2, rfl, rfl⟩
    go_wp2_with fail
    refine (at_mul a b _ M HM.out).mono ?_
    rintro e w' ⟨n3, rfl, rfl⟩
    go_wp2_with fail
    refine (at_mul b a _ M (by rw [mul_comm]; exact HM.out)).mono ?_
    rintro e w' ⟨n4, rfl, rfl⟩
    clear HS HM
    go_wp2_with fail
    refine (specFloat_F a _ XN.out).mono ?_
    rintro e w' ⟨n5, rfl, rfl⟩
    go_wp2_with fail
    refine (at_less a b _ _ HL.out).mono ?_
    rintro e w' ⟨n6, rfl, rfl⟩
    go_wp2_with fail
    refine (at_less b a _ _ HG.out).mono ?_
    rintro e w' ⟨n7, rfl, rfl⟩
    go_wp2_with fail
    refine (at_same a b _ _ HE.out).mono ?_
    rintro e w' ⟨n8, rfl, rfl⟩
    clear HL HG HE
    go_wp2_with fail
    refine (specFloat b _).mono ?_
    rintro e w' ⟨y, n9, rfl, hy, rfl⟩
    have hoy : FloatKind.f64.format.order y y = some .eq := order_self hy.1 (by rcases hy.2 with ⟨h, _⟩ | ⟨h, k⟩; rw [YN.out] at h; cases h; rw [k]; exact h)
    have HY := Lib.hid hy
    clear hy
    go_wp2_with fail
    refine (at_same a a _ _ (self_of _ (wordOf_lt a) _ XN.out)).mono ?_
    rintro e w' ⟨na, rfl, rfl⟩
    go_wp2_with fail
    refine (at_nine a b _).mono ?_
    rintro e w' ⟨nb, rfl, rfl⟩
    go_wp2_with fail
    refine (at_sub a b _ D HD.out).mono ?_
    rintro e w' ⟨nc, rfl, rfl⟩
    go_wp2_with fail
    refine (implBits _ (neg_lt HY.out.1) _).mono ?_
    rintro e w' ⟨rfl, rfl⟩
    go_wp2_with fail
    refine (at_add a _ _ D ((sub_bits _ y _ (wordOf_lt b) HY.out).trans HD.out)).mono ?_
    rintro e w' ⟨nd, rfl, rfl⟩
    go_wp2
    go_ret
    exact ⟨rfl, by repeat (first | exact HB.out | refine pw_below_drewN ?_ _)⟩
  · have XN := Lib.hid nx
    have hox : FloatKind.f64.format.order (wordOf a) (wordOf a) = some .eq := order_self (wordOf_lt a) nx
    have YN := Lib.hid ny
    clear nx ny
    go_wp2_with fail
    refine (at_add a b _ S HS.out).mono ?_
    rintro e w' ⟨n1, rfl, rfl⟩
    go_wp2_with fail
    refine (at_add b a _ S (by rw [add_comm]; exact HS.out)).mono ?_
    rintro e w' ⟨n2, rfl, rfl⟩
    go_wp2_with fail
    refine (at_mul a b _ M HM.out).mono ?_
    rintro e w' ⟨n3, rfl, rfl⟩
    go_wp2_with fail
    refine (at_mul b a _ M (by rw [mul_comm]; exact HM.out)).mono ?_
    rintro e w' ⟨n4, rfl, rfl⟩
    clear HS HM
    go_wp2_with fail
    refine (specFloat_F a _ XN.out).mono ?_
    rintro e w' ⟨n5, rfl, rfl⟩
    go_wp2_with fail
    refine (at_less a b _ _ HL.out).mono ?_
    rintro e w' ⟨n6, rfl, rfl⟩
    go_wp2_with fail
    refine (at_less b a _ _ HG.out).mono ?_
    rintro e w' ⟨n7, rfl, rfl⟩
    go_wp2_with fail
    refine (at_same a b _ _ HE.out).mono ?_
    rintro e w' ⟨n8, rfl, rfl⟩
    clear HL HG HE
    go_wp2_with fail
    refine (specFloat b _).mono ?_
    rintro e w' ⟨y, n9, rfl, hy, rfl⟩
    have hoy : FloatKind.f64.format.order y y = some .eq := order_self hy.1 (by rcases hy.2 with ⟨h, _⟩ | ⟨h, k⟩; rw [YN.out] at h; cases h; rw [k]; exact h)
    have HY := Lib.hid hy
    clear hy
    go_wp2_with fail
    refine (at_same a a _ _ (self_of _ (wordOf_lt a) _ XN.out)).mono ?_
    rintro e w' ⟨na, rfl, rfl⟩
    go_wp2_with fail
    refine (at_nine a b _).mono ?_
    rintro e w' ⟨nb, rfl, rfl⟩
    go_wp2_with fail
    refine (at_sub a b _ D HD.out).mono ?_
    rintro e w' ⟨nc, rfl, rfl⟩
    go_wp2_with fail
    refine (implBits _ (neg_lt HY.out.1) _).mono ?_
    rintro e w' ⟨rfl, rfl⟩
    go_wp2_with fail
    refine (at_add a _ _ D ((sub_bits _ y _ (wordOf_lt b) HY.out).trans HD.out)).mono ?_
    rintro e w' ⟨nd, rfl, rfl⟩
    go_wp2
    go_ret
    exact ⟨rfl, by repeat (first | exact HB.out | refine pw_below_drewN ?_ _)⟩
  · have XN := Lib.hid nx
    have hox : FloatKind.f64.format.order (wordOf a) (wordOf a) = some .eq := order_self (wordOf_lt a) nx
    have YN := Lib.hid ny
    clear nx ny
    go_wp2_with fail
    refine (at_add a b _ S HS.out).mono ?_
    rintro e w' ⟨n1, rfl, rfl⟩
    go_wp2_with fail
    refine (at_add b a _ S (by rw [add_comm]; exact HS.out)).mono ?_
    rintro e w' ⟨n2, rfl, rfl⟩
    go_wp2_with fail
    refine (at_mul a b _ M HM.out).mono ?_
    rintro e w' ⟨n3, rfl, rfl⟩
    go_wp2_with fail
    refine (at_mul b a _ M (by rw [mul_comm]; exact HM.out)).mono ?_
    rintro e w' ⟨n4, rfl, rfl⟩
    clear HS HM
    go_wp2_with fail
    refine (specFloat_F a _ XN.out).mono ?_
    rintro e w' ⟨n5, rfl, rfl⟩
    go_wp2_with fail
    refine (at_less a b _ _ HL.out).mono ?_
    rintro e w' ⟨n6, rfl, rfl⟩
    go_wp2_with fail
    refine (at_less b a _ _ HG.out).mono ?_
    rintro e w' ⟨n7, rfl, rfl⟩
    go_wp2_with fail
    refine (at_same a b _ _ HE.out).mono ?_
    rintro e w' ⟨n8, rfl, rfl⟩
    clear HL HG HE
    go_wp2_with fail
    refine (specFloat b _).mono ?_
    rintro e w' ⟨y, n9, rfl, hy, rfl⟩
    have hoy : FloatKind.f64.format.order y y = some .eq := order_self hy.1 (by rcases hy.2 with ⟨h, _⟩ | ⟨h, k⟩; rw [YN.out] at h; cases h; rw [k]; exact h)
    have HY := Lib.hid hy
    clear hy
    go_wp2_with fail
    refine (at_same a a _ _ (self_of _ (wordOf_lt a) _ XN.out)).mono ?_
    rintro e w' ⟨na, rfl, rfl⟩
    go_wp2_with fail
    refine (at_nine a b _).mono ?_
    rintro e w' ⟨nb, rfl, rfl⟩
    go_wp2_with fail
    refine (at_sub a b _ D HD.out).mono ?_
    rintro e w' ⟨nc, rfl, rfl⟩
    go_wp2_with fail
    refine (implBits _ (neg_lt HY.out.1) _).mono ?_
    rintro e w' ⟨rfl, rfl⟩
    go_wp2_with fail
    refine (at_add a _ _ D ((sub_bits _ y _ (wordOf_lt b) HY.out).trans HD.out)).mono ?_
    rintro e w' ⟨nd, rfl, rfl⟩
    go_wp2
    go_ret
    exact ⟨rfl, by repeat (first | exact HB.out | refine pw_below_drewN ?_ _)⟩

end Go.Proofs.Ytpgefgbenojjfaa.FdFnArith
