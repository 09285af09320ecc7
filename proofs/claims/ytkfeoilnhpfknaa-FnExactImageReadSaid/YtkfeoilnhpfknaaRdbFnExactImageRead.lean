/- The contract of (*impl.imageReader).ints. -/
import Derived.Test.YtkfeoilnhpfknaaRdaFnExactImageRead
namespace Go.Proofs.Ytkfeoilnhpfknaa.ImFnExactImageRead
open Go.RowKit Go.Proofs.Ytkfeoilnhpfknaa.QFnExactImageRead Go.Proofs.YtkfeoilnhpfknaaW.PrintWords Go.Proofs.YtkfeoilnhpfknaaW.PrintLast
set_option linter.unusedSimpArgs false
set_option linter.unusedVariables false

/-- What a call that reads leaves: blocks other than the reader's are as they were. -/
def KeepR (gr : Nat) (w w' : World) : Prop := w.heap.size ≤ w'.heap.size ∧ ∀ k, k < w.heap.size → k ≠ gr → w'.heap[k]? = w.heap[k]?
theorem KeepR.refl (gr : Nat) (w : World) : KeepR gr w w := ⟨Nat.le_refl _, fun _ _ _ => rfl⟩
theorem KeepR.trans {gr : Nat} {w w1 w2 : World} (h : KeepR gr w w1) (k : KeepR gr w1 w2) : KeepR gr w w2 := ⟨Nat.le_trans h.1 k.1, fun b hb hn => (k.2 b (Nat.lt_of_lt_of_le hb h.1) hn).trans (h.2 b hb hn)⟩
theorem Only.keepR {gr : Nat} {w w1 : World} (h : Only gr w w1) : KeepR gr w w1 := ⟨Nat.le_of_eq h.1.symm, fun b _ hn => h.2 b hn⟩
theorem KeepR.of_below {gr : Nat} {w w1 : World} (h : Below w.heap.size w w1) : KeepR gr w w1 := ⟨h.size, fun b hb _ => h.block b hb⟩
theorem Rdr.below {w0 w w1 : World} {gr : Nat} {rest : List Int} {bad : Bool} (h : Rdr w0 w gr rest bad) (hb : Below w.heap.size w w1) : Rdr w0 w1 gr rest bad := by
  obtain ⟨h1, h2, A, c, h3, h4, h5⟩ := h
  exact ⟨h1, below_step h2 hb, A, c, blk_below h3 hb, h4, h5⟩
/-- A row of whole numbers, apart from the reader. -/
theorem Kd.R_keepR {α : Type} {d : Kd α} {e gr base : Nat} {ok : Nat → Prop} {w w1 : World} {v : Value} {xs : List α} (h : Kd.R d e w base ok v xs) (hk : KeepR gr w w1) (ho : ∀ k, ok k → k ≠ gr) : Kd.R d e w1 base ok v xs := by
  refine Kd.R_mono (Kd.R_move (Kd.R_bound h) fun k hk' => hk.2 k hk'.2.2.1 (ho k hk'.1)) fun k hk' => hk'.1

theorem Rdr.grow {w0 w w1 : World} {gr B : Nat} {rest : List Int} {bad : Bool} (h : Rdr w0 w gr rest bad) (hb : Below B w w1) (hB : w0.heap.size ≤ B) (hx : w1.heap[gr]? = w.heap[gr]?) : Rdr w0 w1 gr rest bad := by
  obtain ⟨h1, h2, A, c, h3, h4, h5⟩ := h
  exact ⟨h1, ⟨hb.os.trans h2.os, hb.tape.trans h2.tape, hb.output.trans h2.output, Nat.le_trans h2.size hb.size, fun k hk => (hb.block k (by omega)).trans (h2.block k hk)⟩, A, c, hx.trans h3, h4, h5⟩
theorem Rdr.size {w0 w : World} {gr : Nat} {rest : List Int} {bad : Bool} (h : Rdr w0 w gr rest bad) : w0.heap.size ≤ w.heap.size := h.2.1.size
theorem KeepR.grow {gr : Nat} {w w1 w2 : World} (h : KeepR gr w w1) (hb : Below w.heap.size w1 w2) : KeepR gr w w2 := ⟨Nat.le_trans h.1 hb.size, fun k hk hn => (hb.block k hk).trans (h.2 k hk hn)⟩
theorem Rdr.has {w0 w : World} {gr : Nat} {rest : List Int} {bad : Bool} (h : Rdr w0 w gr rest bad) : ∃ A c, w.heap[gr]? = some (.cells #[.slice A rest.length c, .bool bad] 74 (0, 0)) := by
  obtain ⟨_, _, A, c, h, _⟩ := h
  exact ⟨A, c, h⟩

/-- Reading numbers of two bytes. -/
def intsV : Nat → List Int → Bool → List Int
  | 0, _, _ => []
  | n + 1, rest, bad => if bad = true then [] else numV 2 rest :: intsV n (numR 2 rest) (numF 2 rest bad)
def intsR : Nat → List Int → Bool → List Int
  | 0, rest, _ => rest
  | n + 1, rest, bad => if bad = true then rest else intsR n (numR 2 rest) (numF 2 rest bad)
def intsF : Nat → List Int → Bool → Bool
  | 0, _, bad => bad
  | n + 1, rest, bad => if bad = true then bad else intsF n (numR 2 rest) (numF 2 rest bad)
theorem numR_len (m : Nat) (rest : List Int) : (numR m rest).length ≤ rest.length := by
  unfold numR
  split
  · exact Nat.zero_le _
  · rw [List.length_drop]; omega
theorem numF_or (m : Nat) (rest : List Int) (bad : Bool) (hm : 0 < m) : numF m rest bad = true ∨ (numR m rest).length + m ≤ rest.length := by
  unfold numF numR
  split
  · exact .inl rfl
  · right; rw [List.length_drop]; omega

def Ints (w0 : World) (gr : Nat) (rest : List Int) (bad : Bool) (n : Nat) (w : World) (e : Ending) (w' : World) : Prop := ∃ v, e = .returned v ∧ Kd.R (Kd.int .i64) 3 w' w.heap.size (fun k => k ≠ gr) v (intsV n rest bad) ∧ Rdr w0 w' gr (intsR n rest bad) (intsF n rest bad) ∧ KeepR gr w w'

set_option maxHeartbeats 8000000 in
set_option maxRecDepth 100000 in
theorem ints_c (w0 : World) (gr : Nat) (rest : List Int) (bad : Bool) (n : Int) (w : World) (hr : Rdr w0 w gr rest bad) (hl : rest.length ≤ 1099511627776) :
    Calls Try.prog 39 #[.pointer (some ⟨gr, 0, none⟩), .int .i64 n] w (Ints w0 gr rest bad n.toNat w) := by
  have HRd := Lib.hid hr
  have HRz := Lib.hid (show w0.heap.size ≤ w.heap.size from hr.size)
  have HGl := Lib.hid (show gr < w.heap.size from by obtain ⟨_, _, _, _, h, _⟩ := hr; exact blk_lt h)
  clear hr
  go_enter Try.func39, Try.ntmps39
  go_wp2_with ((with_reducible refine gate_dst (N := 7) rfl ?_); refine Kd.R_lit (Kd.int .i64) _ 3 ?hg (N := 7) ?hd (xs := ([] : List Int)) (inner := []) (ok := fun _ => True) (okp := fun _ => True) ?hr ?hp (fun _ hk => hk) trivial (Below.refl _ _) (Nat.le_refl _) (by simp) ?_; (case hd => rfl); (case hg => rfl); (case hr => first | (go_simp; done) | (go_simp; rfl)); (case hp => exact (Reps.none _ _)); intro vS w2 ho2 hb hg_ hnew_; clear hg_ hnew_; have HO := Lib.hid (Kd.R_mono (Kd.R_bound ho2) (ok' := fun k => k ≠ gr) (fun k hk => by have := hk.2.1; have := HGl.out; omega)); have HR2 := Lib.hid (HRd.out.below hb); have HK2 := Lib.hid (KeepR.of_below (gr := gr) hb); clear hb ho2)
  clear HRd
  go_loopw [5, 6] (fun v5 v6 wr => ∃ (i : Nat) (xs rs : List Int) (bd : Bool), v6 = .int .i64 i ∧ rs.length ≤ rest.length ∧ (bd = true ∨ i + rs.length ≤ rest.length) ∧ ((i : Int) ≤ n ∨ i = 0) ∧ Hid (xs ++ intsV (n.toNat - i) rs bd = intsV n.toNat rest bad ∧ intsR (n.toNat - i) rs bd = intsR n.toNat rest bad ∧ intsF (n.toNat - i) rs bd = intsF n.toNat rest bad ∧ xs.length = i) ∧ Hid (Kd.R (Kd.int .i64) 3 wr w.heap.size (fun k => k ≠ gr) v5 xs) ∧ Hid (Rdr w0 wr gr rs bd) ∧ Hid (KeepR gr w wr)) (fun _ v6 _ => (n - intOf v6).toNat)
  case atStart => exact ⟨0, [], rest, bad, rfl, Nat.le_refl _, .inr (by omega), .inr rfl, Lib.hid ⟨rfl, rfl, rfl, rfl⟩, HO, HR2, HK2⟩
  case round =>
    clear HO HR2 HK2
    obtain ⟨i, xs, rs, bd, rfl, hrs, hbi, hi, HX, HO, HR, HK⟩ := hrel
    by_cases hlt : (i : Int) < n
    · have d1 : decide ((i : Int) < n) = true := decide_eq_true hlt
      obtain ⟨A, c, hb⟩ : ∃ A c, wr.heap[gr]? = some (.cells #[.slice A rs.length c, .bool bd] 74 (0, 0)) := by obtain ⟨_, _, A, c, h, _⟩ := HR.out; exact ⟨A, c, h⟩
      have z1 := (blk_cell hb 1).trans rfl
      clear hb
      cases bd
      · have HS : Hid (intsV (n.toNat - i) rs false = numV 2 rs :: intsV (n.toNat - (i + 1)) (numR 2 rs) (numF 2 rs false) ∧ intsR (n.toNat - i) rs false = intsR (n.toNat - (i + 1)) (numR 2 rs) (numF 2 rs false) ∧ intsF (n.toNat - i) rs false = intsF (n.toNat - (i + 1)) (numR 2 rs) (numF 2 rs false)) := Lib.hid (by
          have e : n.toNat - i = (n.toNat - (i + 1)) + 1 := by omega
          rw [e]
          exact ⟨rfl, rfl, rfl⟩)
        obtain ⟨y1, hy1⟩ : ∃ y1 : List Int, y1 = [numV 2 rs] := ⟨_, rfl⟩
        have Ny := Lib.hid hy1
        clear hy1
        have hl2 : rs.length ≤ 1099511627776 := by omega
        have hi2 : i ≤ 1099511627776 := by rcases hbi with h | h; (· cases h); (· omega)
        have Hn2 := Lib.hid (numF_or 2 rs false (by decide))
        have hbi' : i + rs.length ≤ rest.length := by rcases hbi with h | h; (· cases h); (· exact h)
        go_wp2_with (first
          | (go_at_call 40; refine (number_c w0 gr rs false 2 wr (by decide) HR.out hl2).mono ?_; rintro e w3 ⟨rfl, hr3, hk3⟩; have HR3 := Lib.hid hr3; have HO3 := Lib.hid (Kd.R_keepR HO.out hk3.keepR (fun _ h => h)); have HK3 := Lib.hid (HK.out.trans hk3.keepR); clear hr3 hk3 z1)
          | ((with_reducible refine gate_dst (N := 23) rfl ?_); refine Kd.R_lit (Kd.int .i64) _ 3 ?hg (N := 23) ?hd (xs := [numV 2 rs]) (inner := [.int .i64 (numV 2 rs)]) (ok := fun _ => True) (okp := fun _ => True) ?hr ?hp (fun _ hk => hk) trivial (Below.refl _ _) (Nat.le_refl _) (by simp) ?_; (case hd => rfl); (case hg => rfl); (case hr => first | (go_simp; done) | (go_simp; rfl)); (case hp => exact (Reps.one (show Kd.M (Kd.int .i64) _ _ _ (numV 2 rs) [.int .i64 (numV 2 rs)] from rfl) (Reps.none _ _))); intro vL w10 hoL hb hg_ hnew_; clear hg_ hnew_; rw [← Ny.out] at hoL; have HOL := Lib.hid hoL; have HO4 := Lib.hid (Kd.R_below HO3.out hb); have HR4 := Lib.hid (HR3.out.below hb); have HK4 := Lib.hid (HK3.out.trans (KeepR.of_below hb)); clear hb hoL; obtain ⟨Ao7, co7, eo7⟩ := Kd.R_slice HOL.out; subst eo7)
          | ((with_reducible refine gate_builtin (b := .append) (xs := #[.tmp 20, .tmp 23]) rfl ?_); at_builtin; refine Kd.R_append_rows (Kd.int .i64) (w0 := w10) w.heap.size rfl (.tmp 20) (.tmp 23) 70 3 (.int .i64 0) 8 rfl Try.underlying70 info3 rfl (by decide) (by omega) _ xs y1 _ _ _ (fun k => k ≠ gr) (fun _ => False) rfl rfl ?aO ?aR (fun _ _ h => h) (fun _ h => h.elim) ?aF ?aB ?aS ?aL ?_; (case aO => exact HO4.out); (case aR => exact (Kd.R_reads' HOL.out).2.2); (case aB => exact Below.refl _ _); (case aF => exact (fun k hk => by have := HGl.out; have := HK4.out.1; omega)); (case aS => exact HK4.out.1); (case aL => have := HX.out.2.2.2; have := congrArg List.length Ny.out; rw [List.length_singleton] at this; omega); intro v155 w11 ho hb hg hat; rw [Ny.out] at ho; have HO5 := Lib.hid ho; have HR5 := Lib.hid (HR4.out.grow hb (by have := HRz.out; omega) (hg.block gr (by have := HGl.out; have := HK4.out.1; omega) (fun e => HO.out.1 gr e.symm rfl))); have HK5 := Lib.hid (HK4.out.grow hb); clear ho hb hg hat))
        refine ⟨⟨i + 1, xs ++ [numV 2 rs], numR 2 rs, numF 2 rs false, by go_num, Nat.le_trans (numR_len 2 rs) hrs, Hn2.out.imp id (fun h => by omega), .inl (by omega), Lib.hid ?_, HO5, HR5, HK5⟩, by simp [intOf]; omega⟩
        have hx := HX.out
        rw [HS.out.1, HS.out.2.1, HS.out.2.2] at hx
        exact ⟨by rw [List.append_assoc]; exact hx.1, hx.2.1, hx.2.2.1, by rw [List.length_append, List.length_singleton, hx.2.2.2]⟩
      · have HS : Hid (xs = intsV n.toNat rest bad ∧ rs = intsR n.toNat rest bad ∧ true = intsF n.toNat rest bad) := Lib.hid (by
          have hx := HX.out
          have e : n.toNat - i = (n.toNat - (i + 1)) + 1 := by omega
          rw [e] at hx
          exact ⟨by have := hx.1; rwa [show intsV (n.toNat - (i + 1) + 1) rs true = [] from rfl, List.append_nil] at this, hx.2.1, hx.2.2.1⟩)
        go_wp2
        go_ret
        exact ⟨_, rfl, by rw [← HS.out.1]; exact HO.out, by rw [← HS.out.2.1, ← HS.out.2.2]; exact HR.out, HK.out⟩
    · have HS : Hid (xs = intsV n.toNat rest bad ∧ rs = intsR n.toNat rest bad ∧ bd = intsF n.toNat rest bad) := Lib.hid (by
        have hx := HX.out
        have e : n.toNat - i = 0 := by omega
        rw [e] at hx
        exact ⟨by have := hx.1; rwa [show intsV 0 rs bd = [] from rfl, List.append_nil] at this, hx.2.1, hx.2.2.1⟩)
      have d1 : decide ((i : Int) < n) = false := decide_eq_false hlt
      go_wp2
      go_ret
      exact ⟨_, rfl, by rw [← HS.out.1]; exact HO.out, by rw [← HS.out.2.1, ← HS.out.2.2]; exact HR.out, HK.out⟩

end Go.Proofs.Ytkfeoilnhpfknaa.ImFnExactImageRead
