/- The contract of the literal 'put' of (*impl.Image).bytes: it writes a list of numbers, two bytes each, behind the row in the box of 'out'. -/
import Derived.Test.YtkfeoilnhpfknaaImhFnExactImageRead
namespace Go.Proofs.Ytkfeoilnhpfknaa.ImFnExactImageRead
open Go.RowKit Go.Proofs.Ytkfeoilnhpfknaa.QFnExactImageRead Go.Proofs.YtkfeoilnhpfknaaW.PrintWords Go.Proofs.YtkfeoilnhpfknaaW.PrintLast

/-- Of the elder blocks none but v's own and the box has been written. -/
def FrameB (w w' : World) (v : Value) (gb : Nat) : Prop := w.heap.size ≤ w'.heap.size ∧ ∀ k, k < w.heap.size → some k ≠ v.ownBlock → k ≠ gb → w'.heap[k]? = w.heap[k]?

def putB : List Int → List Int
  | [] => []
  | n :: l => lowB n 2 ++ putB l
theorem putB_snoc (l : List Int) (n : Int) : putB (l ++ [n]) = putB l ++ lowB n 2 := by
  induction l with
  | nil => show lowB n 2 ++ [] = [] ++ lowB n 2; rw [List.append_nil, List.nil_append]
  | cons m l ih => show lowB m 2 ++ putB (l ++ [n]) = (lowB m 2 ++ putB l) ++ lowB n 2; rw [ih, List.append_assoc]
theorem putB_len (l : List Int) : (putB l).length = 2 * l.length := by
  induction l with
  | nil => rfl
  | cons m l ih => show (lowB m 2 ++ putB l).length = _; rw [List.length_append, lowB_len, ih, List.length_cons]; omega

theorem OwnB.ne {w : World} {base : Nat} {v : Value} {xs : List Int} (h : OwnB w base v xs) {gb : Nat} {cs : Array Value} (hb : w.heap[gb]? = some (.cells cs 34 (0, 0))) : some gb ≠ v.ownBlock := by
  rcases h with h | ⟨_, g, rfl, _, _, h3⟩
  · exact Kd.R_ne h hb (by decide)
  · intro e
    have e2 : gb = g := by injection e
    subst e2
    rw [hb] at h3
    injection h3 with h3
    injection h3 with _ h4
    exact absurd h4 (by decide)
theorem OwnB.slice {w : World} {base : Nat} {v : Value} {xs : List Int} (h : OwnB w base v xs) : ∃ A c, v = .slice A xs.length c := by
  rcases h with h | ⟨_, g, rfl, _, _, _⟩
  · exact Kd.R_slice h
  · exact ⟨_, _, rfl⟩
theorem OwnB.any {w : World} {base : Nat} {v : Value} {xs : List Int} (h : OwnB w base v xs) : ∃ A n c, v = .slice A n c := by
  obtain ⟨A, c, e⟩ := h.slice
  exact ⟨A, _, c, e⟩
theorem OwnB.set {w : World} {base : Nat} {v : Value} {xs : List Int} (h : OwnB w base v xs) {gb : Nat} {cs : Array Value} (hb : w.heap[gb]? = some (.cells cs 34 (0, 0))) (j : Nat) (u : Value) : OwnB (w.setCell ⟨gb, j, none⟩ u) base v xs := by
  have hn := h.ne hb
  rcases h with h | ⟨h0, g, rfl, h1, h2, h3⟩
  · exact .inl (Kd.R_set h hb (by decide) j u)
  · refine .inr ⟨h0, g, rfl, h1, h2, ?_⟩
    rw [Below.heap_setCell w ⟨gb, j, none⟩ u g (fun e => hn (by rw [show g = gb from e]; rfl))]
    exact h3

def Puts (w0 w : World) (v : Value) (gb : Nat) (ys : List Int) (e : Ending) (w' : World) : Prop := ∃ v1, e = .returned (.tuple #[]) ∧ w'.heap[gb]? = some (.cells #[v1] 34 (0, 0)) ∧ OwnB w' w0.heap.size v1 ys ∧ Below w0.heap.size w0 w' ∧ FrameB w w' v gb ∧ NewOr w v v1

theorem FrameB.step {w w1 w2 : World} {v v1 : Value} {gb : Nat} {u : Value} (h : FrameB w w1 v gb) (hn : NewOr w v v1) (hf : Frame w1 w2 v1) : FrameB w (w2.setCell ⟨gb, 0, none⟩ u) v gb := by
  have hsz : (w2.setCell ⟨gb, 0, none⟩ u).heap.size = w2.heap.size := by simp [World.setCell]
  refine ⟨by rw [hsz]; exact Nat.le_trans h.1 hf.1, fun k hk hv hg => ?_⟩
  rw [Below.heap_setCell w2 ⟨gb, 0, none⟩ u k hg, hf.2 k (by have := h.1; omega) ?_]
  · exact h.2 k hk hv hg
  · rcases hn with e | ⟨b, e, hb⟩
    · rw [e]; exact hv
    · rw [e]; intro e2; injection e2 with e2; omega

set_option maxHeartbeats 4000000 in
set_option maxRecDepth 100000 in
theorem put_c (w0 : World) (A : Option Addr) (c : Nat) (l : List Int) (gb : Nat) (v : Value) (xs : List Int) (w : World) (hB : Below w0.heap.size w0 w) (hgb : w0.heap.size ≤ gb) (hr : Kd.C (Kd.int .i64) w A l.length l) (hfar : ∀ ad, A = some ad → 0 < l.length → ad.block ≠ gb ∧ some ad.block ≠ v.ownBlock)
    (hx : w.heap[gb]? = some (.cells #[v] 34 (0, 0))) (hO : OwnB w w0.heap.size v xs) (hl : l.length ≤ 68719476736) (hxs : xs.length ≤ 137438953472) :
    Calls Try.prog 57 #[.slice A l.length c, .pointer (some ⟨gb, 0, none⟩)] w (Puts w0 w v gb (xs ++ putB l)) := by
  have HB := Lib.hid hB
  have HO := Lib.hid hO
  have HX := Lib.hid hx
  have HR := Lib.hid hr
  have HFar := Lib.hid hfar
  have HG := Lib.hid hgb
  clear hB hO hx hr hfar hgb
  go_enter Try.func57, Try.ntmps57
  go_wp2
  go_loopw [4, 7] (fun v4 v7 wr => ∃ (i : Nat) (v1 : Value), v7 = .int .i64 i ∧ i ≤ l.length ∧ Hid (wr.heap[gb]? = some (.cells #[v1] 34 (0, 0))) ∧ Hid (OwnB wr w0.heap.size v1 (xs ++ putB (l.take i))) ∧ Hid (Below w0.heap.size w0 wr) ∧ Hid (FrameB w wr v gb) ∧ Hid (NewOr w v v1)) (fun _ v7 _ => (l.length - intOf v7).toNat)
  case atStart => exact ⟨0, v, rfl, by omega, HX, Lib.hid (by rw [List.take_zero]; show OwnB _ _ _ (xs ++ []); rw [List.append_nil]; exact HO.out), HB, Lib.hid ⟨Nat.le_refl _, fun _ _ _ _ => rfl⟩, Lib.hid (.inl rfl)⟩
  case round =>
    clear HB HO HX
    obtain ⟨i, v1, rfl, hi, HX, HO, HB, HF, HN⟩ := hrel
    by_cases hlt : i < l.length
    · have p0 : (0 : Int) ≤ (i : Int) := by omega
      have q0 : (i : Int) < (l.length : Int) := by omega
      obtain ⟨ad, e1, y0⟩ := Kd.at_int HR.out i p0 q0
      have hf := HFar.out ad e1 (by omega)
      subst e1
      rw [Int.toNat_natCast] at y0
      replace y0 : wr.cell? (ad.add i) = some (.int .i64 (rd l i)) := by
        have hb : (ad.add i).block < w.heap.size := World.block_lt_of_cell? w _ y0
        rw [World.cell?_of_block (w := w) (w' := wr) (HF.out.2 _ hb (by rw [add_block]; exact hf.2) (by rw [add_block]; exact hf.1))]
        exact y0
      clear hf
      have z0 := (blk_cell HX.out 0).trans rfl
      have HE : Hid (xs ++ putB (l.take (i + 1)) = (xs ++ putB (l.take i)) ++ lowB (rd l i) 2) := Lib.hid (by
        have e : l.take (i + 1) = l.take i ++ [rd l i] := by
          rw [List.take_succ_eq_append_getElem hlt]
          unfold rd
          rw [Int.toNat_natCast, List.getD_eq_getElem?_getD, List.getElem?_eq_getElem hlt]; rfl
        rw [e, putB_snoc, List.append_assoc])
      have HLy : Hid ((xs ++ putB (l.take i)).length ≤ 549755813888) := Lib.hid (by rw [List.length_append, putB_len, List.length_take]; omega)
      go_wp2_with fail
      refine (low_c w0 v1 (xs ++ putB (l.take i)) (rd l i) 2 _ HB.out HO.out (by omega) HLy.out).mono ?_
      clear z0 y0
      rintro e w2 ⟨v2, rfl, hO2, hB2, hF2, hN2⟩
      have HX2 : Hid (w2.heap[gb]? = some (.cells #[v1] 34 (0, 0))) := Lib.hid ((hF2.2 gb (blk_lt HX.out) (HO.out.ne HX.out)).trans HX.out)
      have HX3 : Hid ((w2.setCell ⟨gb, 0, none⟩ v2).heap[gb]? = some (.cells #[v2] 34 (0, 0))) := Lib.hid (by simpa using blk_set HX2.out 0 v2)
      have HO3 : Hid (OwnB (w2.setCell ⟨gb, 0, none⟩ v2) w0.heap.size v2 (xs ++ putB (l.take (i + 1)))) := Lib.hid (by rw [HE.out]; exact hO2.set HX2.out 0 v2)
      have HB3 : Hid (Below w0.heap.size w0 (w2.setCell ⟨gb, 0, none⟩ v2)) := Lib.hid (below_set hB2 HG.out)
      have HF3 : Hid (FrameB w (w2.setCell ⟨gb, 0, none⟩ v2) v gb) := Lib.hid (HF.out.step HN.out hF2)
      have HN3 : Hid (NewOr w v v2) := Lib.hid (HN.out.step HF.out.1 hN2)
      obtain ⟨A2, n2, c2, rfl⟩ := hO2.any
      have z0 := (blk_cell HX2.out 0).trans rfl
      have f0 := blk_frozen HX2.out 0
      clear hO2 hB2 hF2 hN2 HX HO HB HF HN HX2
      go_wp2
      go_roundw
      case rel => exact ⟨i + 1, _, by go_num, by omega, HX3, HO3, HB3, HF3, HN3⟩
      case measure => simp [intOf]; omega
    · obtain rfl : i = l.length := by omega
      have HE : Hid (OwnB wr w0.heap.size v1 (xs ++ putB l)) := Lib.hid (by have := HO.out; rwa [List.take_length] at this)
      go_wp2
      first | go_end0 | ((try simp only [Exit.inBlock, Exit.then]); refine bodyPost_ret (results_none rfl _ _ _) rfl ?_)
      exact ⟨v1, rfl, HX.out, HE.out, HB.out, HF.out, HN.out⟩

end Go.Proofs.Ytkfeoilnhpfknaa.ImFnExactImageRead
