/- Contracts of slices.IndexFunc and ContainsFunc over the closure of edgesOk, and of edgesOk. -/
import Derived.Test.YtlamooicofkjlaaDmaFnExactDoms
namespace Go.Proofs.Ytlamooicofkjlaa.DmFnExactDoms
open Go.RowKit Go.Proofs.Ytlamooicofkjlaa.QFnExactDoms Go.Proofs.YtlamooicofkjlaaW.PrintWords Go.Proofs.YtlamooicofkjlaaW.PrintLast Go.Proofs.Ytlamooicofkjlaa.SrFnExactDoms
set_option linter.unusedVariables false

theorem below_step {w w1 w2 : World} {n : Nat} (h : Below n w w1) (h2 : Below w1.heap.size w1 w2) (hn : n ≤ w1.heap.size) : Below n w w2 := h.trans (h2.mono hn)

/-- An index that is below 0 just where no edge is bad. -/
def Found (n : Nat) (l : List S72) (w : World) (e : Ending) (w' : World) : Prop := ∃ r : Int, e = .returned (.int .i64 r) ∧ decide (0 ≤ r) = l.any (fun s => bad n s.f0) ∧ Below w.heap.size w w'

theorem any_none {n : Nat} {l : List S72} (h : ∀ j : Nat, j < l.length → bad n (rd_T72 l j).f0 = false) : l.any (fun s => bad n s.f0) = false := by
  rw [List.any_eq_false]
  intro s hs
  obtain ⟨j, hj, rfl⟩ := List.getElem_of_mem hs
  have := h j hj
  rw [rd72 l j hj] at this
  rw [this]; decide
theorem any_some {n : Nat} {l : List S72} (j : Nat) (hj : j < l.length) (h : bad n (rd_T72 l j).f0 = true) : l.any (fun s => bad n s.f0) = true := by
  rw [List.any_eq_true]
  rw [rd72 l j hj] at h
  exact ⟨l[j], List.getElem_mem hj, h⟩

set_option maxHeartbeats 2000000 in
theorem index (gp gb : Nat) (B : List S70) (A : Option Addr) (c : Nat) (l : List S72) (w : World) (hM : MemP w gp gb B) (hl : B.length ≤ 1099511627776) (hl2 : l.length ≤ 1099511627776) (hr : Kd.C k72 w A l.length l) : Calls Try.prog 49 #[.slice A l.length c, .func (.func 37) #[] #[.pointer (some ⟨gp, 0, none⟩)]] w (Found B.length l w) := by
  have HR := Lib.hid hr
  have HM := Lib.hid hM
  clear hr hM
  go_enter Try.func49, Try.ntmps49
  go_wp2
  go_loopw [5, 8] (fun v5 v8 wr => ∃ i : Nat, v8 = .int .i64 i ∧ i ≤ l.length ∧ Hid (∀ j : Nat, j < i → bad B.length (rd_T72 l j).f0 = false) ∧ Hid (Below w.heap.size w wr)) (fun _ v8 _ => (l.length - intOf v8).toNat)
  case atStart => exact ⟨0, rfl, by omega, Lib.hid (fun j hj => by omega), Lib.hid (Below.refl _ _)⟩
  case round =>
    obtain ⟨i, rfl, hi, HF, HB⟩ := hrel
    by_cases hlt : i < l.length
    · have p : (0 : Int) ≤ (i : Int) := by omega
      have q : (i : Int) < (l.length : Int) := by omega
      obtain ⟨ad, A1, c1, e1, x0, x1, _, _⟩ := at_T72 (Kd.C_below HR.out HB.out) i p (by omega)
      subst e1
      rw [Int.toNat_natCast] at x0 x1
      cases h5 : bad B.length (rd_T72 l i).f0
      · have HF2 : Hid (∀ j : Nat, j < i + 1 → bad B.length (rd_T72 l j).f0 = false) := Lib.hid (fun j hj => by
          by_cases e : j = i
          · subst e; exact h5
          · exact HF.out j (by omega))
        have H5 := Lib.hid h5
        clear h5
        go_wp2_with (go_at_call 37; refine (edge_c gp gb B _ _ _ (HM.out.below HB.out) hl).mono ?_; rintro e w' ⟨rfl, hb⟩; replace HB := Lib.hid (below_step HB.out hb HB.out.size); clear hb x0 x1; rw [H5.out])
        go_roundw
        case rel => exact ⟨i + 1, by go_num, by omega, HF2, HB⟩
        case measure => simp [intOf]; omega
      · have HA := Lib.hid (any_some i hlt h5)
        have H5 := Lib.hid h5
        clear h5
        go_wp2_with (go_at_call 37; refine (edge_c gp gb B _ _ _ (HM.out.below HB.out) hl).mono ?_; rintro e w' ⟨rfl, hb⟩; replace HB := Lib.hid (below_step HB.out hb HB.out.size); clear hb x0 x1; rw [H5.out])
        go_ret
        exact ⟨_, rfl, by rw [HA.out]; exact decide_eq_true (by omega), HB.out⟩
    · have HF2 := Lib.hid (any_none (l := l) (fun j hj => HF.out j (by omega)))
      go_wp2
      go_ret
      exact ⟨_, rfl, by rw [HF2.out]; rfl, HB.out⟩

theorem contains (gp gb : Nat) (B : List S70) (A : Option Addr) (c : Nat) (l : List S72) (w : World) (hM : MemP w gp gb B) (hl : B.length ≤ 1099511627776) (hl2 : l.length ≤ 1099511627776) (hr : Kd.C k72 w A l.length l) : Calls Try.prog 36 #[.slice A l.length c, .func (.func 37) #[] #[.pointer (some ⟨gp, 0, none⟩)]] w (Says (l.any (fun s => bad B.length s.f0)) w) := by
  have HR := Lib.hid hr
  have HM := Lib.hid hM
  clear hr hM
  go_enter Try.func36, Try.ntmps36
  go_wp2_with fail
  refine (index gp gb B A c l _ HM.out hl hl2 HR.out).mono ?_
  rintro e w' ⟨r, rfl, hr, hb⟩
  have HD := Lib.hid hr
  have HB := Lib.hid hb
  clear hr hb
  go_wp2
  go_ret
  exact ⟨by rw [← HD.out]; rfl, HB.out⟩
