/- The contract of (*impl.imageReader).number. -/
import Derived.Test.YtkfeoilnhpfknaaImqFnExactImageRead
import Derived.Deep.RegionHeldLaw
import Derived.Laws.BitsAllLaws
namespace Go.Proofs.Ytkfeoilnhpfknaa.ImFnExactImageRead
open Go.RowKit Go.Proofs.Ytkfeoilnhpfknaa.QFnExactImageRead Go.Proofs.YtkfeoilnhpfknaaW.PrintWords Go.Proofs.YtkfeoilnhpfknaaW.PrintLast
set_option linter.unusedSimpArgs false

/-- A reader at gr: what is left to read lies in memory that is elder than w0's height. -/
def Rdr (w0 w : World) (gr : Nat) (rest : List Int) (bad : Bool) : Prop := w0.heap.size ≤ gr ∧ Below w0.heap.size w0 w ∧ ∃ A c, w.heap[gr]? = some (.cells #[.slice A rest.length c, .bool bad] 74 (0, 0)) ∧ rest.length ≤ c ∧ Kd.C (Kd.int .u8) w0 A rest.length rest
/-- Only the block gr has been written. -/
def Only (gr : Nat) (w w' : World) : Prop := w'.heap.size = w.heap.size ∧ ∀ k, k ≠ gr → w'.heap[k]? = w.heap[k]?

/-- The first i bytes as a number, as the loop joins them. -/
def foldN (l : List Int) : Nat → Int
  | 0 => 0
  | i + 1 => bits .or .i64 (foldN l i) (wrap64 (wrap64 (rd l i) * 2 ^ (8 * i)))
def numV (many : Nat) (rest : List Int) : Int := if rest.length < many then 0 else foldN rest many
def numR (many : Nat) (rest : List Int) : List Int := if rest.length < many then [] else rest.drop many
def numF (many : Nat) (rest : List Int) (bad : Bool) : Bool := if rest.length < many then true else bad
def Num (w0 : World) (gr : Nat) (rest : List Int) (bad : Bool) (many : Nat) (w : World) (e : Ending) (w' : World) : Prop := e = .returned (.int .i64 (numV many rest)) ∧ Rdr w0 w' gr (numR many rest) (numF many rest bad) ∧ Only gr w w'
theorem Only.refl (gr : Nat) (w : World) : Only gr w w := ⟨rfl, fun _ _ => rfl⟩
theorem Only.trans {gr : Nat} {w w1 w2 : World} (h : Only gr w w1) (k : Only gr w1 w2) : Only gr w w2 := ⟨k.1.trans h.1, fun b hb => (k.2 b hb).trans (h.2 b hb)⟩
theorem Only.set (gr j : Nat) (w : World) (v : Value) : Only gr w (w.setCell ⟨gr, j, none⟩ v) := ⟨by simp [World.setCell], fun k hk => Below.heap_setCell w ⟨gr, j, none⟩ v k hk⟩

set_option maxHeartbeats 8000000 in
set_option maxRecDepth 100000 in
theorem number_c (w0 : World) (gr : Nat) (rest : List Int) (bad : Bool) (many : Nat) (w : World) (hm : many ≤ 8) (hr : Rdr w0 w gr rest bad) (hl : rest.length ≤ 1099511627776) :
    Calls Try.prog 40 #[.pointer (some ⟨gr, 0, none⟩), .int .i64 many] w (Num w0 gr rest bad many w) := by
  obtain ⟨hg, hb, A, c, hx, hc, hC⟩ := hr
  have HG := Lib.hid hg
  have HB := Lib.hid hb
  have HX := Lib.hid hx
  have HC := Lib.hid hC
  clear hg hb hC hx
  have z0 := (blk_cell HX.out 0).trans rfl
  have z1 := (blk_cell HX.out 1).trans rfl
  have f0 := blk_frozen HX.out 0
  have f1 := blk_frozen HX.out 1
  by_cases hlt : (rest.length : Int) < (many : Int)
  · have d1 : decide ((rest.length : Int) < (many : Int)) = true := decide_eq_true hlt
    go_enter Try.func40, Try.ntmps40
    go_wp2
    have hlt' : rest.length < many := by omega
    have HE : Hid (Num w0 gr rest bad many w (.returned (.int .i64 0)) ((w.setCell ⟨gr, 1, none⟩ (.bool true)).setCell ⟨gr, 0, none⟩ (.slice none 0 0))) := Lib.hid (by
      refine ⟨by unfold numV; rw [if_pos hlt'], ⟨HG.out, below_set (below_set HB.out HG.out) HG.out, none, 0, ?_, by unfold numR; rw [if_pos hlt']; exact Nat.le_refl _, by unfold numR; rw [if_pos hlt']; exact (Kd.C_nil _ _)⟩, (Only.set gr 1 w _).trans (Only.set gr 0 _ _)⟩
      unfold numR numF
      rw [if_pos hlt', if_pos hlt']
      simpa using blk_set (blk_set HX.out 1 (.bool true)) 0 (.slice none 0 0))
    go_ret
    exact HE.out
  · have d1 : decide ((rest.length : Int) < (many : Int)) = false := decide_eq_false hlt
    have p0 : (0 : Int) ≤ (many : Int) := by omega
    have p1 : (many : Int) ≤ (rest.length : Int) := by omega
    have p2 : (many : Int) ≤ (c : Int) := by omega
    go_enter Try.func40, Try.ntmps40
    go_wp2
    go_loopw [5, 28] (fun v5 v28 wr => ∃ (i : Nat) (q : Int), v28 = .int .i64 i ∧ v5 = .int .i64 q ∧ Hid (q = foldN rest i) ∧ i ≤ many ∧ wr = w) (fun _ v28 _ => (many - intOf v28).toNat)
    case atStart => exact ⟨0, 0, rfl, rfl, Lib.hid rfl, by omega, rfl⟩
    case round =>
      obtain ⟨i, q, rfl, rfl, HQ, hi, rfl⟩ := hrel
      by_cases hli : i < many
      · have p3 : (0 : Int) ≤ (i : Int) := by omega
        have q3 : (i : Int) < (rest.length : Int) := by omega
        have q4 : (i : Int) < (many : Int) := by omega
        obtain ⟨ad, e1, x0⟩ := Kd.at_int HC.out i p3 q3
        subst e1
        rw [Int.toNat_natCast] at x0
        replace x0 := pw_cell_below HB.out x0
        obtain ⟨ji, hji⟩ : ∃ ji : Int, ji = 8 * (i : Int) := ⟨_, rfl⟩
        have e1 : IntKind.i64.wrap (8 * (i : Int)) = ji := by rw [i64_w, hji]; unfold wrap64; omega
        have e2 : (0 : Int) ≤ ji := by omega
        have e3 : decide ((0 : Int) ≤ ji) = true := decide_eq_true e2
        have e6 : ji ≤ 64 := by omega
        have HJ : Hid (ji.toNat = 8 * i) := Lib.hid (by omega)
        clear hji
        go_wp2
        refine ⟨⟨i + 1, _, by go_num, rfl, Lib.hid ?_, by omega, trivial⟩, by simp [intOf]; omega⟩
        rw [foldN, HQ.out, HJ.out]
      · obtain rfl : i = many := by omega
        have HE : Hid (∀ A' c', (A' = if c = i then A else A.map (·.add i)) → c' = c - i → Num w0 gr rest bad i wr (.returned (.int .i64 q)) (wr.setCell ⟨gr, 0, none⟩ (.slice A' (rest.length - i) c'))) := Lib.hid (fun A' c' hA hc' => by
          have hn : ¬ rest.length < i := by omega
          have hd := Kd.C_drop HC.out (m := i) (by omega) hc
          have hs : (Kd.int .u8).sz = 1 := rfl
          rw [hs, Nat.mul_one, ← hA, List.length_drop] at hd
          refine ⟨by unfold numV; rw [if_neg hn, HQ.out], ⟨HG.out, below_set HB.out HG.out, A', c', ?_, ?_, ?_⟩, Only.set gr 0 wr _⟩
          · unfold numR numF
            rw [if_neg hn, if_neg hn, List.length_drop]
            simpa using blk_set HX.out 0 (.slice A' (rest.length - i) c')
          · unfold numR
            rw [if_neg hn, List.length_drop]
            omega
          · unfold numR
            rw [if_neg hn, List.length_drop]
            exact hd)
        go_wp2
        · go_ret
          exact HE.out _ _ (by rw [if_pos (by assumption)]) (by omega)
        · go_ret
          exact HE.out _ _ (by rw [if_neg (by assumption)]) rfl

end Go.Proofs.Ytkfeoilnhpfknaa.ImFnExactImageRead
