/- The contract of impl.low over rows of bytes, marked ones too. -/
import Derived.Test.YtkfeoilnhpfknaaImgFnExactImageRead
namespace Go.Proofs.Ytkfeoilnhpfknaa.ImFnExactImageRead
open Go.RowKit Go.Proofs.Ytkfeoilnhpfknaa.QFnExactImageRead Go.Proofs.YtkfeoilnhpfknaaW.PrintWords Go.Proofs.YtkfeoilnhpfknaaW.PrintLast

theorem OwnB.below {w w1 : World} {base : Nat} {v : Value} {xs : List Int} (h : OwnB w base v xs) (hb : Below w.heap.size w w1) : OwnB w1 base v xs := by
  rcases h with h | ⟨h0, g, e, h1, h2, h3⟩
  · exact .inl (Kd.R_below h hb)
  · exact .inr ⟨h0, g, e, h1, h2, blk_below h3 hb⟩

/-- n without its i lowest bytes, and those bytes. -/
def sh (n : Int) : Nat → Int
  | 0 => n
  | i + 1 => sh n i / 256
def lowB (n : Int) : Nat → List Int
  | 0 => []
  | i + 1 => lowB n i ++ [sh n i % 256]
theorem lowB_len (n : Int) (i : Nat) : (lowB n i).length = i := by
  induction i with
  | zero => rfl
  | succ i ih => unfold lowB; rw [List.length_append, ih]; rfl

/-- Of the elder blocks none but v's own has been written. -/
def Frame (w w' : World) (v : Value) : Prop := w.heap.size ≤ w'.heap.size ∧ ∀ k, k < w.heap.size → some k ≠ v.ownBlock → w'.heap[k]? = w.heap[k]?
def NewOr (w : World) (v v1 : Value) : Prop := v1.ownBlock = v.ownBlock ∨ ∃ b, v1.ownBlock = some b ∧ w.heap.size ≤ b
def Grows (w0 w : World) (v : Value) (ys : List Int) (e : Ending) (w' : World) : Prop := ∃ v1, e = .returned v1 ∧ OwnB w' w0.heap.size v1 ys ∧ Below w0.heap.size w0 w' ∧ Frame w w' v ∧ NewOr w v v1

theorem Frame.step {w w1 w2 : World} {v v1 : Value} (h : Frame w w1 v) (hn : NewOr w v v1) (hg : w1.grownBy w2 v1.ownBlock) : Frame w w2 v := by
  refine ⟨Nat.le_trans h.1 hg.size, fun k hk hv => ?_⟩
  have hk1 : k < w1.heap.size := by have := h.1; omega
  rw [hg.block k hk1 ?_]
  · exact h.2 k hk hv
  · rcases hn with e | ⟨b, e, hb⟩
    · rw [e]; exact hv
    · rw [e]; intro e2; injection e2 with e2; omega
theorem Frame.below {w w1 w2 : World} {v : Value} (h : Frame w w1 v) (hb : Below w1.heap.size w1 w2) : Frame w w2 v :=
  ⟨Nat.le_trans h.1 hb.size, fun k hk hv => (hb.block k (by have := h.1; omega)).trans (h.2 k hk hv)⟩
theorem NewOr.step {w w1 : World} {v v1 v2 : Value} (h : NewOr w v v1) (hs : w.heap.size ≤ w1.heap.size) (h2 : v2.ownBlock = v1.ownBlock ∨ ∃ b, v2.ownBlock = some b ∧ w1.heap.size ≤ b) : NewOr w v v2 := by
  rcases h2 with e | ⟨b, e, hb⟩
  · rcases h with h | ⟨c, h, hc⟩
    · exact .inl (e.trans h)
    · exact .inr ⟨c, e.trans h, hc⟩
  · exact .inr ⟨b, e, by omega⟩

set_option maxHeartbeats 4000000 in
set_option maxRecDepth 100000 in
theorem low_c (w0 : World) (v : Value) (xs : List Int) (n : Int) (many : Nat) (w : World) (hB : Below w0.heap.size w0 w) (hO : OwnB w w0.heap.size v xs) (hm : many ≤ 8) (hl : xs.length ≤ 549755813888) :
    Calls Try.prog 58 #[v, .int .i64 n, .int .i64 many] w (Grows w0 w v (xs ++ lowB n many)) := by
  have HB := Lib.hid hB
  have HO := Lib.hid hO
  clear hB hO
  go_enter Try.func58, Try.ntmps58
  go_wp2
  go_loopw [0, 1, 8] (fun v0 v1 v8 wr => ∃ i : Nat, v1 = .int .i64 (sh n i) ∧ v8 = .int .i64 i ∧ i ≤ many ∧ Hid (OwnB wr w0.heap.size v0 (xs ++ lowB n i)) ∧ Hid (Below w0.heap.size w0 wr) ∧ Hid (Frame w wr v) ∧ Hid (NewOr w v v0)) (fun _ _ v8 _ => (many - intOf v8).toNat)
  case atStart => exact ⟨0, rfl, rfl, by omega, Lib.hid (by rw [lowB, List.append_nil]; exact HO.out), HB, Lib.hid ⟨Nat.le_refl _, fun _ _ _ => rfl⟩, Lib.hid (.inl rfl)⟩
  case round =>
    clear HB HO
    obtain ⟨i, rfl, rfl, hi, HO, HB, HF, HN⟩ := hrel
    by_cases hlt : i < many
    · obtain ⟨ys, hys⟩ : ∃ ys, ys = xs ++ lowB n i := ⟨_, rfl⟩
      obtain ⟨q, hq⟩ : ∃ q, q = sh n i := ⟨_, rfl⟩
      have HE : Hid (xs ++ lowB n (i + 1) = ys ++ [q % 256]) := Lib.hid (by rw [hys, hq, lowB, List.append_assoc])
      have HS : Hid (sh n (i + 1) = q / 256) := Lib.hid (by rw [hq, sh])
      have HL : Hid (ys.length ≤ 549755813888 + 8) := Lib.hid (by rw [hys, List.length_append, lowB_len]; omega)
      rw [← hys] at HO
      rw [← hq]
      clear hys hq
      obtain ⟨y1, hy1⟩ : ∃ y1 : List Int, y1 = [q % 256] := ⟨_, rfl⟩
      have Ny := Lib.hid hy1
      clear hy1
      go_wp2_with (first
        | ((with_reducible refine gate_dst (N := 13) rfl ?_); refine Kd.R_lit (Kd.int .u8) _ 5 ?hg (N := 13) ?hd (xs := [q % 256]) (inner := [.int .u8 (q % 256)]) (ok := fun _ => True) (okp := fun _ => True) ?hr ?hp (fun _ hk => hk) trivial (Below.refl _ _) (Nat.le_refl _) (by simp) ?_; (case hd => rfl); (case hg => rfl); (case hr => first | (go_simp; done) | (go_simp; rfl)); (case hp => exact (Reps.one (show Kd.M (Kd.int .u8) _ _ _ (q % 256) [.int .u8 (q % 256)] from rfl) (Reps.none _ _))); intro vL w10 hoL hb hg_ hnew_; clear hg_ hnew_; rw [← Ny.out] at hoL; have HOL := Lib.hid hoL; have HO2 := Lib.hid (HO.out.below hb); have HB2 := Lib.hid (below_step HB.out hb); have HF2 := Lib.hid (HF.out.below hb); clear hb hoL HO HB HF; obtain ⟨Ao7, co7, eo7⟩ := Kd.R_slice HOL.out; subst eo7)
        | ((with_reducible refine gate_builtin (b := .append) (xs := #[.tmp 10, .tmp 13]) rfl ?_); at_builtin; refine append_b (w0 := w0) (by rfl) (.tmp 10) (.tmp 13) (by rfl) _ ys y1 _ _ _ (by rfl) (by rfl) HO2.out (Kd.R_reads' HOL.out).2.2 (by rw [Ny.out, List.length_singleton]; exact Nat.one_pos) HB2.out (by have := HL.out; rw [Ny.out, List.length_singleton]; omega) ?_; intro v11 w11 ho hb hg hat; rw [Ny.out, ← HE.out] at ho; have HO3 := Lib.hid ho; have HB3 := Lib.hid hb; have HF3 := Lib.hid (HF2.out.step HN.out hg); have HN3 := Lib.hid (HN.out.step HF2.out.1 hat); clear ho hb hg hat HO2 HB2 HF2 HN HOL))
      go_roundw
      case rel => exact ⟨i + 1, by rw [HS.out], by go_num, by omega, Lib.hid (.inl HO3.out), HB3, HF3, HN3⟩
      case measure => simp [intOf]; omega
    · obtain rfl : i = many := by omega
      go_wp2
      go_ret
      exact ⟨_, rfl, HO.out, HB.out, HF.out, HN.out⟩

end Go.Proofs.Ytkfeoilnhpfknaa.ImFnExactImageRead
