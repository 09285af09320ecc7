/- The contract of spec.l3sign. -/
import Derived.Test.YtkkodbbgdndhmaaDoorLxfFnExactLex
namespace Go.Proofs.YtkkodbbgdndhmaaDoor.LxFnExactLex
open Go.RowKit Go.Proofs.YtkkodbbgdndhmaaDoor.QFnExactLex Go.Proofs.YtkkodbbgdndhmaaDoorW.PrintWords Go.Proofs.YtkkodbbgdndhmaaDoorW.PrintLast
set_option linter.unusedSimpArgs false

def signBytes : ByteArray := ⟨#[40, 41, 123, 125, 91, 93, 44, 59, 46, 42, 61, 43, 47, 37, 60, 45]⟩
def signs : List Int := [40, 41, 123, 125, 91, 93, 44, 59, 46, 42, 61, 43, 47, 37, 60, 45]

theorem sign_at : ∀ (i : Nat) (h : i < 16), ((signBytes[i]'h).toNat : Int) = signs.getD i 0 := by decide
set_option maxHeartbeats 8000000 in
set_option maxRecDepth 100000 in
theorem l3sign_c (a : Int) (w : World) : Calls Tryd.prog 13 #[.int .u8 a] w fun e w' => e = .returned (.bool (decide (a ∈ signs))) ∧ w' = w := by
  go_enter Tryd.func13, Tryd.ntmps13
  go_wp2
  go_loop [4] (fun v4 => ∃ i : Nat, v4 = .int .i64 i ∧ i ≤ 16 ∧ Hid (a ∉ signs.take i)) (fun v4 => (16 - intOf v4).toNat)
  case atStart => exact ⟨0, rfl, by omega, Lib.hid (by simp)⟩
  case round =>
    obtain ⟨i, rfl, hi, HN⟩ := hrel

    by_cases hlt : i < 16
    · have p0 : (i : Int) < 16 := by omega
      have hs := sign_at i hlt
      go_wp2
      · rename_i h _
        have h := beq_iff_eq.1 h
        have hm : a ∈ signs := by
          rw [← show signs.getD i 0 = a from hs.symm.trans h, List.getD_eq_getElem?_getD, List.getElem?_eq_getElem (show i < signs.length from hlt)]
          exact List.getElem_mem _
        go_ret
        exact ⟨by rw [decide_eq_true hm]; rfl, rfl⟩
      · rename_i h
        have hn : Hid (a ∉ signs.take (i + 1)) := Lib.hid (by
          rw [List.take_succ_eq_append_getElem (show i < signs.length from hlt), List.mem_append, List.mem_singleton]
          rintro (h1 | h1)
          · exact HN.out h1
          · apply beq_eq_false_iff_ne.1 h
            refine hs.trans ?_
            rw [List.getD_eq_getElem?_getD, List.getElem?_eq_getElem (show i < signs.length from hlt)]
            exact h1.symm)
        go_round
        case rel => exact ⟨i + 1, by go_num, by omega, hn⟩
        case measure => simp [intOf]; omega
    · obtain rfl : i = 16 := by omega
      go_wp2
      go_ret
      exact ⟨by rw [decide_eq_false (show a ∉ signs from HN.out)]; rfl, rfl⟩

end Go.Proofs.YtkkodbbgdndhmaaDoor.LxFnExactLex
