/- Contracts of the small float functions of seat a: math's bit casts, IsNaN, Float, Bits and their kin. Each: what the call answers, for every word. -/
import Derived.Test.YtkkodbbgdndhmaaDoorProg
import Derived.Test.YtkkodbbgdndhmaaDoorIeee
import Derived.WalkKit
import Derived.WalkLawsBesides
import Derived.WalkSpells
import Derived.KernelRfl
import Derived.Lib.Hide
import Derived.Laws.Externs
import Derived.Laws.NewFold
import Derived.Laws.BitsAllLaws
namespace Go.Proofs.YtkkodbbgdndhmaaDoor.Fw
open Go.RowKit Go.Proofs.YtkkodbbgdndhmaaDoor.Fl

theorem call_frombits (n : Int) (w : World) : (callFunc 73 #[.int .u64 n]).run Tryd.prog w = .ok (.value (.float .f64 n.toNat)) w := by
  rw [run_callFunc_extern Tryd.func73 (by kernel_rfl) (by kernel_rfl) (by kernel_rfl) (e := Extern.MathFloatBits.float64frombits) (by kernel_rfl)]
  rfl
theorem call_bits (b : Nat) (w : World) : (callFunc 72 #[.float .f64 b]).run Tryd.prog w = .ok (.value (.int .u64 b)) w := by
  rw [run_callFunc_extern Tryd.func72 (by kernel_rfl) (by kernel_rfl) (by kernel_rfl) (e := Extern.MathFloatBits.float64bits) (by kernel_rfl)]
  rfl

/-- The word of an int's 64 bits. -/
def wordOf (n : Int) : Nat := (IntKind.u64.wrap n).toNat
theorem wrap_u64 (n : Int) : IntKind.u64.wrap n = n % 18446744073709551616 := by simp [IntKind.wrap, IntKind.bits, IntKind.signed]
theorem wordOf_lt (n : Int) : wordOf n < 2 ^ 64 := by unfold wordOf; rw [wrap_u64]; omega
theorem wordOf_cast (n : Int) : IntKind.u64.wrap n = (wordOf n : Int) := by unfold wordOf; rw [wrap_u64]; omega
/-- The int of a word's 64 bits: of what is no number one alone. -/
def bitsOf (x : Nat) : Int := if isNan x then 9221120237041090561 else wrap64 x

theorem implFloat (n : Int) (w : World) : Calls Tryd.prog 50 #[.int .i64 n] w fun e w' => e = .returned (.float .f64 (wordOf n)) ∧ w = w' := by
  have hfb := call_frombits
  go_enter Tryd.func50, Tryd.ntmps50
  go_wp2
  go_ret
  exact ⟨rfl, rfl⟩

theorem fmt_eq : FloatKind.f64.format = Ieee.double := rfl

theorem isNaN_call (x : Nat) (hx : x < 2 ^ 64) (w : World) : Calls Tryd.prog 71 #[.float .f64 x] w fun e w' => e = .returned (.bool (isNan x)) ∧ w = w' := by
  have h : (FloatKind.f64.format.order x x != some .eq) = isNan x := by
    rw [fmt_eq]
    by_cases c : isNan x = true
    · rw [order_nan_left hx c, c]; rfl
    · rw [Bool.not_eq_true] at c
      rw [order_self hx c, c]; rfl
  go_enter Tryd.func71, Tryd.ntmps71
  go_wp2
  go_ret
  exact ⟨by first | rfl | rw [h], rfl⟩

theorem implBits (x : Nat) (hx : x < 2 ^ 64) (w : World) : Calls Tryd.prog 49 #[.float .f64 x] w fun e w' => e = .returned (.int .i64 (bitsOf x)) ∧ w = w' := by
  have hfb := call_bits
  by_cases c : isNan x = true
  · have hb : bitsOf x = 9221120237041090561 := if_pos c
    rw [hb]
    clear hb
    go_enter Tryd.func49, Tryd.ntmps49
    go_wp2_with (go_at_call 71; refine (isNaN_call x hx _).mono ?_; rintro e w' ⟨rfl, rfl⟩)
    go_ret
    exact ⟨rfl, rfl⟩
  · have hb : bitsOf x = wrap64 x := if_neg c
    rw [hb]
    rw [Bool.not_eq_true] at c
    clear hb
    go_enter Tryd.func49, Tryd.ntmps49
    go_wp2_with (go_at_call 71; refine (isNaN_call x hx _).mono ?_; rintro e w' ⟨rfl, rfl⟩)
    go_ret
    exact ⟨rfl, rfl⟩

theorem run_op (op : BinOp) {x y r : Nat} (h : floatBits op .f64 x y = some r) : ∀ w : World, (binOp op 45 (.float .f64 x) (.float .f64 y)).run Tryd.prog w = .ok (.float .f64 r) w :=
  fun w => run_float_arith w op 45 .f64 x y r h

/-- What the tape answers for an operation that has no number to give. -/
def nanOf (w : World) (x y : Nat) : Nat := (Question.nanBits .f64 x y).cut (w.tape w.drawn (Question.nanBits .f64 x y))
theorem nanOf_nan (w : World) (x y : Nat) : isNan (nanOf w x y) = true ∧ nanOf w x y < 2 ^ 64 := nan_cut ..

theorem run_nan (op : BinOp) (ho : op = .add ∨ op = .sub ∨ op = .mul ∨ op = .quo) {x y : Nat} (h : floatBits op .f64 x y = none) : ∀ w : World, (binOp op 45 (.float .f64 x) (.float .f64 y)).run Tryd.prog w = .ok (.float .f64 (nanOf w x y)) w.drew := by
  intro w
  have hf : (Question.nanBits .f64 x y).forced = false := rfl
  unfold floatBits at h
  rcases ho with rfl | rfl | rfl | rfl <;> simp only at h <;> simp [binOp, Op.floatArith, h, hf, nanOf]

theorem neg_run (x : Nat) (w : World) : (Op.unary .neg (.float .f64 x)).run Tryd.prog w = .ok (.float .f64 (Op.negFloat .f64 x)) w := rfl

end Go.Proofs.YtkkodbbgdndhmaaDoor.Fw
