/- The contract of impl.pieceOf. -/
import Derived.Test.YtkkodbbgdndhmaaDoorLxyFnExactLex
namespace Go.Proofs.YtkkodbbgdndhmaaDoor.LxFnExactLex
open Go.RowKit Go.Proofs.YtkkodbbgdndhmaaDoor.QFnExactLex Go.Proofs.YtkkodbbgdndhmaaDoorW.PrintWords Go.Proofs.YtkkodbbgdndhmaaDoorW.PrintLast Go.Proofs.YtkkodbbgdndhmaaDoor.LexA Go.Proofs.YtkkodbbgdndhmaaDoor.Fw
open Go.Proofs.YtkkodbbgdndhmaaDoor.LexBFnExactLex (decL dval intV)
set_option linter.unusedSimpArgs false
set_option linter.unusedVariables false

set_option maxHeartbeats 16000000 in
set_option maxRecDepth 100000 in
theorem piece_word (A : Option Addr) (c : Nat) (l : List Int) (w : World) (hr : Kd.C (Kd.int .u8) w A l.length l) (hc : l.length ≤ c) (hl : l.length ≤ 1048576) (hby : Byt l) (hL : LW w) (hw : Word l) :
    Calls Tryd.prog 25 #[.slice A l.length c] w (Piece l w) := by
  have hu34 := Tryd.underlying34
  have HR := Lib.hid hr
  have HY := Lib.hid hby
  have HL := Lib.hid hL
  clear hr hby hL
  go_enter Tryd.func25, Tryd.ntmps25
  go_upto_region 1 with ((with_reducible refine gate_dst (N := 2) rfl ?_); refine box_event ?hg (N := 2) ?hd (cs := #[.int .i64 0, .int .i64 0, .int .i64 0, .slice none 0 0]) (t := 34) ?hr ?_; (case hd => rfl); (case hg => rfl); (case hr => first | (go_simp; done) | (go_simp; rfl)); intro gb hg w1 hbox hb; have HG := Lib.hid (Nat.le_of_eq hg.symm); have HB := Lib.hid hb; have HX := Lib.hid hbox; clear hg hbox hb)
  have hcv := Kd.C_string (P := Tryd.prog) (A := A) (c := c) Tryd.underlying22 Tryd.underlying5 Tryd.underlying9 (Kd.C_below HR.out HB.out)
  have HSl : Hid ((strOfNums l).toList = Lib.bytesOf l) := Lib.hid (Lib.strOfNums_toList l)
  have hsz : (strOfNums l).size = l.length := strOfNums_size l
  generalize strOfNums l = S at hcv HSl hsz
  obtain ⟨s1, hs1⟩ : ∃ s1, s1 = w1.heap.size := ⟨_, rfl⟩
  have HS1 : Hid (s1 = w1.heap.size ∧ gb < s1) := Lib.hid ⟨hs1, by rw [hs1]; exact blk_lt HX.out⟩
  clear hs1
  have HL1 := Lib.hid (HL.out.below HB.out)
  have HR1 := Lib.hid (Kd.C_below HR.out HB.out)
  clear HL HR
  have HW1 := Lib.hid (smallW_c A c l w1 HR1.out hc)
  have HW2 := Lib.hid (greatW_c A c l w1 HR1.out hc)
  have HC := Lib.hid (clone_c A c l w1 HR1.out hc hl)
  have HP : Hid (IsPiece l ⟨1, 0, 0, l⟩) := Lib.hid (.inl ⟨hw, rfl⟩)
  obtain ⟨z0, z1, z2, z3⟩ := four HX.out
  have f0 := blk_frozen HX.out 0
  have f1 := blk_frozen HX.out 1
  have f2 := blk_frozen HX.out 2
  have f3 := blk_frozen HX.out 3
  have hsg : smallW l = true ∨ (smallW l = false ∧ greatW l = true) := by
    by_cases h : smallW l = true
    · exact .inl h
    · exact .inr ⟨Bool.eq_false_iff.2 h, hw.resolve_left h⟩
  clear hw
  rcases hsg with h1 | ⟨h1, h2⟩
  all_goals
    (try rw [h1] at HW1)
    (try rw [h2] at HW2)
    go_upto_region 3 with (first | (go_at_call 32; refine HW1.out.mono ?_; rintro e w' ⟨rfl, rfl⟩) | (go_at_call 33; refine HW2.out.mono ?_; rintro e w' ⟨rfl, rfl⟩))
    clear z0 z1 z2 z3 f0 f1 f2 f3
    go_wp2_with (go_at_call 34; refine HC.out.mono ?_; rintro e w2 ⟨v, rfl, hR, hb2⟩; have HR2 := Lib.hid hR; have HB2 := Lib.hid hb2; have HX2 := Lib.hid (blk_below HX.out hb2); clear hR hb2; obtain ⟨Av, cv, ev⟩ := Kd.R_slice HR2.out; subst ev; obtain ⟨z0, z1, z2, z3⟩ := four HX2.out; have f0 := blk_frozen HX2.out 0; have f1 := blk_frozen HX2.out 1; have f2 := blk_frozen HX2.out 2; have f3 := blk_frozen HX2.out 3)
    refine bodyPost_ret (results_row_tmp rfl _ _ gb 34 #[.int .i64 1, .int .i64 0, .int .i64 0, .slice Av l.length cv] (0, 0) _ rfl (set4 HX2.out _ _ _ _) Tryd.underlying34 rfl (by kernel_rfl)) rfl ?_
    refine ⟨⟨1, 0, 0, l⟩, .slice Av l.length cv, true, rfl, ?_, below4 (below_step HB.out HB2.out) HG.out _ _ _ _, fun _ => HP.out, fun h => by cases h⟩
    exact Kd.R_lower (Kd.R_mono (Kd.R_move (Kd.R_mono (Kd.R_bound HR2.out) (ok' := fun k => s1 ≤ k) (fun k hk => by rw [HS1.out.1]; exact hk.2.1)) (fun k hk => far4 _ gb _ _ _ _ k (by have hk : s1 ≤ k := hk; have := HS1.out.2; omega))) (fun _ _ => trivial)) HB.out.size

end Go.Proofs.YtkkodbbgdndhmaaDoor.LxFnExactLex
