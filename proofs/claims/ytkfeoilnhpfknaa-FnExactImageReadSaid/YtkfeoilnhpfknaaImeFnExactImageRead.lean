/- The contract of (*impl.Code).mapsOk. -/
import Derived.Test.YtkfeoilnhpfknaaImdFnExactImageRead
namespace Go.Proofs.Ytkfeoilnhpfknaa.ImFnExactImageRead
open Go.RowKit Go.Proofs.Ytkfeoilnhpfknaa.QFnExactImageRead Go.Proofs.YtkfeoilnhpfknaaW.PrintWords Go.Proofs.YtkfeoilnhpfknaaW.PrintLast

/-- The safe places among the first i instructions. -/
def safeTo (ins : List S68) : Nat → List Int
  | 0 => []
  | i + 1 => if safeB (rd_T68 ins i).f0 then safeTo ins i ++ [(i : Int)] else safeTo ins i
theorem safeTo_len (ins : List S68) (i : Nat) : (safeTo ins i).length ≤ i := by
  induction i with
  | zero => exact Nat.le_refl _
  | succ i ih =>
    unfold safeTo
    split
    · rw [List.length_append, List.length_singleton]; omega
    · omega

theorem safe_v (f0 f1 f2 f3 f4 : Int) (v : Bool) (h : safeB f0 = v) (w : World) : Calls Try.prog 74 #[.agg #[.int .i64 f0, .int .i64 f1, .int .i64 f2, .int .i64 f3, .int .i64 f4]] w fun e w' => e = .returned (.bool v) ∧ Below w.heap.size w w' := by
  rw [← h]; exact safe_c _ _ _ _ _ _

def MapsOk (c : S53) : Prop := AllOk c.f0 c.f3 (safeTo c.f2 c.f2.length)

set_option maxHeartbeats 8000000 in
set_option maxRecDepth 100000 in
theorem maps_c (p : Addr) (c : S53) (w : World) (hlm : c.f3.length ≤ 1099511627776) (hli : c.f2.length ≤ 1099511627776) (hls : ∀ j : Nat, j < c.f3.length → (rd_T72 c.f3 j).f1.length ≤ 1099511627776) (hC : MemC w p c) :
    Calls Try.prog 56 #[.pointer (some p)] w (Tells (MapsOk c) w) := by
  have HC := Lib.hid hC
  have HL := Lib.hid hls
  have hu68 := Try.underlying68
  obtain ⟨A2, c2, A3, c3, hC0, hC1, hC2, hC3, hC4, hC5⟩ := hC
  have HI := Lib.hid hC4
  have HM := Lib.hid hC5
  clear hls hC0 hC1 hC4 hC5
  have H2 := Lib.hid hC2
  have H3 := Lib.hid hC3
  clear hC2 hC3
  go_enter Try.func56, Try.ntmps56
  go_upto_region 2 with (first
    | ((with_reducible refine gate_dst (N := 1) rfl ?_); refine box_event ?hg (N := 1) ?hd (cs := #[.pointer (some p)]) (t := 58) ?hr ?_; (case hd => rfl); (case hg => rfl); (case hr => first | (go_simp; done) | (go_simp; rfl)); intro gb hg w1 hbox hb; have hgb := Nat.le_of_eq hg.symm; clear hg; have HB1 := Lib.hid hb; have HX1 := Lib.hid hbox; have HG := Lib.hid hgb; clear hbox hb hgb)
    | ((with_reducible refine gate_dst (N := 6) rfl ?_); refine Kd.R_lit (Kd.int .i64) _ 3 ?hg (N := 6) ?hd (xs := ([] : List Int)) (inner := []) (ok := fun _ => True) (okp := fun _ => True) ?hr ?hp (fun _ hk => hk) trivial (Below.refl _ _) (Nat.le_refl _) (by simp) ?_; (case hd => rfl); (case hg => rfl); (case hr => first | (go_simp; done) | (go_simp; rfl)); (case hp => exact (Reps.none _ _)); intro vS w2 ho2 hb hg_ hnew_; clear hg_ hnew_; have HO := Lib.hid (Kd.R_lower ho2 HB1.out.size); have HX := Lib.hid (blk_below HX1.out hb); have HB := Lib.hid (below_step HB1.out hb); clear hb ho2 HB1 HX1))
  have y2 := pw_cell_below HB.out H2.out
  have y1 := (blk_cell HX.out 0).trans rfl
  go_wp2
  clear y2 y1
  go_loopw [3, 4, 12] (fun v3 v4 v12 wr => ∃ i : Nat, v12 = .int .i64 i ∧ i ≤ c.f2.length ∧ Hid (Kd.R (Kd.int .i64) 3 wr w.heap.size (fun _ => True) v3 (safeTo c.f2 i)) ∧ Hid (wr.heap[gb]? = some (.cells #[.pointer (some p)] 58 (0, 0))) ∧ Hid (Below w.heap.size w wr)) (fun _ _ v12 _ => (c.f2.length - intOf v12).toNat)
  case atStart => exact ⟨0, rfl, by omega, Lib.hid HO.out, HX, HB⟩
  case round =>
    clear HO HX HB
    obtain ⟨i, rfl, hi, HO, HX, HB⟩ := hrel
    by_cases hlt : i < c.f2.length
    · have p0 : (0 : Int) ≤ (i : Int) := by omega
      have q0 : (i : Int) < (c.f2.length : Int) := by omega
      obtain ⟨ad, e1, x0, x1, x2, x3, x4⟩ := at_T68 HI.out i p0 q0
      subst e1
      rw [Int.toNat_natCast] at x0 x1 x2 x3 x4
      replace x0 := pw_cell_below HB.out x0
      replace x1 := pw_cell_below HB.out x1
      replace x2 := pw_cell_below HB.out x2
      replace x3 := pw_cell_below HB.out x3
      replace x4 := pw_cell_below HB.out x4
      go_upto_region 5 with (first | ((with_reducible refine gate_dst (N := 5) rfl ?_); refine box_event ?hg (N := 5) ?hd (cs := #[.int .i64 0, .int .i64 0, .int .i64 0, .int .i64 0, .int .i64 0]) (t := 68) ?hr ?_; (case hd => rfl); (case hg => rfl); (case hr => first | (go_simp; done) | (go_simp; rfl)); intro g1 hg w6 hbox hb; have hg1 := Nat.le_of_eq hg.symm; clear hg; replace x0 := pw_cell_below hb x0; replace x1 := pw_cell_below hb x1; replace x2 := pw_cell_below hb x2; replace x3 := pw_cell_below hb x3; replace x4 := pw_cell_below hb x4; have z0 := (blk_cell hbox 0).trans rfl; have z1 := (blk_cell hbox 1).trans rfl; have z2 := (blk_cell hbox 2).trans rfl; have z3 := (blk_cell hbox 3).trans rfl; have z4 := (blk_cell hbox 4).trans rfl; have f0 := blk_frozen hbox 0; have f1 := blk_frozen hbox 1; have f2 := blk_frozen hbox 2; have f3 := blk_frozen hbox 3; have f4 := blk_frozen hbox 4; have HB6 := Lib.hid hb; have HBX := Lib.hid hbox; have HG1 := Lib.hid hg1; clear hbox hb hg1))
      clear x0 x1 x2 x3 x4 z0 z1 z2 z3 z4 f0 f1 f2 f3 f4
      have HBr : Hid (Below wr.heap.size wr (((((w6.setCell ⟨g1, 0, none⟩ (.int .i64 (rd_T68 c.f2 i).f0)).setCell ⟨g1, 1, none⟩ (.int .i64 (rd_T68 c.f2 i).f1)).setCell ⟨g1, 2, none⟩ (.int .i64 (rd_T68 c.f2 i).f2)).setCell ⟨g1, 3, none⟩ (.int .i64 (rd_T68 c.f2 i).f3)).setCell ⟨g1, 4, none⟩ (.int .i64 (rd_T68 c.f2 i).f4))) := Lib.hid (below_set (below_set (below_set (below_set (below_set HB6.out HG1.out) HG1.out) HG1.out) HG1.out) HG1.out)
      have HB1 : Hid ((((((w6.setCell ⟨g1, 0, none⟩ (.int .i64 (rd_T68 c.f2 i).f0)).setCell ⟨g1, 1, none⟩ (.int .i64 (rd_T68 c.f2 i).f1)).setCell ⟨g1, 2, none⟩ (.int .i64 (rd_T68 c.f2 i).f2)).setCell ⟨g1, 3, none⟩ (.int .i64 (rd_T68 c.f2 i).f3)).setCell ⟨g1, 4, none⟩ (.int .i64 (rd_T68 c.f2 i).f4)).heap[g1]? = some (.cells #[.int .i64 (rd_T68 c.f2 i).f0, .int .i64 (rd_T68 c.f2 i).f1, .int .i64 (rd_T68 c.f2 i).f2, .int .i64 (rd_T68 c.f2 i).f3, .int .i64 (rd_T68 c.f2 i).f4] 68 (0, 0))) := Lib.hid (by simpa using blk_set (blk_set (blk_set (blk_set (blk_set HBX.out 0 (.int .i64 (rd_T68 c.f2 i).f0)) 1 (.int .i64 (rd_T68 c.f2 i).f1)) 2 (.int .i64 (rd_T68 c.f2 i).f2)) 3 (.int .i64 (rd_T68 c.f2 i).f3)) 4 (.int .i64 (rd_T68 c.f2 i).f4))
      generalize (((((w6.setCell ⟨g1, 0, none⟩ (.int .i64 (rd_T68 c.f2 i).f0)).setCell ⟨g1, 1, none⟩ (.int .i64 (rd_T68 c.f2 i).f1)).setCell ⟨g1, 2, none⟩ (.int .i64 (rd_T68 c.f2 i).f2)).setCell ⟨g1, 3, none⟩ (.int .i64 (rd_T68 c.f2 i).f3)).setCell ⟨g1, 4, none⟩ (.int .i64 (rd_T68 c.f2 i).f4)) = w8 at HBr HB1 ⊢
      clear HB6 HBX HG1
      have HO8 := Lib.hid (Kd.R_below HO.out HBr.out)
      have HX8 := Lib.hid (blk_below HX.out HBr.out)
      have HB8 := Lib.hid (below_step HB.out HBr.out)
      clear HO HX HB HBr
      have z0 := (blk_cell HB1.out 0).trans rfl
      have z1 := (blk_cell HB1.out 1).trans rfl
      have z2 := (blk_cell HB1.out 2).trans rfl
      have z3 := (blk_cell HB1.out 3).trans rfl
      have z4 := (blk_cell HB1.out 4).trans rfl
      clear HB1
      cases hsb : safeB (rd_T68 c.f2 i).f0
      · have HE : Hid (safeTo c.f2 (i + 1) = safeTo c.f2 i) := Lib.hid (by rw [safeTo, hsb]; rfl)
        have HV := Lib.hid hsb
        clear hsb
        go_wp2_with fail
        refine (safe_v _ _ _ _ _ _ HV.out _).mono ?_
        clear z0 z1 z2 z3 z4
        rintro e w9 ⟨rfl, hb⟩
        have HO9 := Lib.hid (Kd.R_below HO8.out hb)
        have HX9 := Lib.hid (blk_below HX8.out hb)
        have HB9 := Lib.hid (below_step HB8.out hb)
        clear hb
        go_wp2
        go_roundw
        case rel => exact ⟨i + 1, by go_num, by omega, Lib.hid (by rw [HE.out]; exact HO9.out), HX9, HB9⟩
        case measure => simp [intOf]; omega
      · have HE : Hid (safeTo c.f2 (i + 1) = safeTo c.f2 i ++ [(i : Int)]) := Lib.hid (by rw [safeTo, hsb]; rfl)
        have HV := Lib.hid hsb
        clear hsb
        obtain ⟨ys, hys⟩ : ∃ ys, ys = safeTo c.f2 i := ⟨_, rfl⟩
        have HLy : Hid (ys.length ≤ i) := Lib.hid (by rw [hys]; exact safeTo_len _ _)
        rw [← hys] at HE HO8
        clear hys
        obtain ⟨y1, hy1⟩ : ∃ y1 : List Int, y1 = [(i : Int)] := ⟨_, rfl⟩
        have Ny := Lib.hid hy1
        clear hy1
        go_wp2_with fail
        refine (safe_v _ _ _ _ _ _ HV.out _).mono ?_
        clear z0 z1 z2 z3 z4
        rintro e w9 ⟨rfl, hb⟩
        have HO9 := Lib.hid (Kd.R_below HO8.out hb)
        have HX9 := Lib.hid (blk_below HX8.out hb)
        have HB9 := Lib.hid (below_step HB8.out hb)
        clear hb HO8 HX8 HB8
        go_wp2_with (first
          | ((with_reducible refine gate_dst (N := 21) rfl ?_); refine Kd.R_lit (Kd.int .i64) _ 3 ?hg (N := 21) ?hd (xs := [(i : Int)]) (inner := [.int .i64 (i : Int)]) (ok := fun _ => True) (okp := fun _ => True) ?hr ?hp (fun _ hk => hk) trivial (Below.refl _ _) (Nat.le_refl _) (by simp) ?_; (case hd => rfl); (case hg => rfl); (case hr => first | (go_simp; done) | (go_simp; rfl)); (case hp => exact (Reps.one (show Kd.M (Kd.int .i64) _ _ _ (i : Int) [.int .i64 (i : Int)] from rfl) (Reps.none _ _))); intro vL w10 hoL hb hg_ hnew_; clear hg_ hnew_; rw [← Ny.out] at hoL; have HOL := Lib.hid hoL; have HO10 := Lib.hid (Kd.R_below HO9.out hb); have HX10 := Lib.hid (blk_below HX9.out hb); have HB10 := Lib.hid (below_step HB9.out hb); clear hb hoL HO9 HX9 HB9; obtain ⟨Ao7, co7, eo7⟩ := Kd.R_slice HOL.out; subst eo7)
          | ((with_reducible refine gate_builtin (b := .append) (xs := #[.tmp 19, .tmp 21]) rfl ?_); at_builtin; refine Kd.R_append_rows (Kd.int .i64) (w0 := w) w.heap.size rfl (.tmp 19) (.tmp 21) 70 3 (.int .i64 0) 8 rfl Try.underlying70 info3 rfl (by decide) (by omega) _ ys y1 _ _ _ (fun _ => True) (fun _ => False) rfl rfl ?aO ?aR (fun _ _ h => h) (fun _ h => h.elim) ?aF ?aB ?aS ?aL ?_; (case aO => exact HO10.out); (case aR => exact (Kd.R_reads' HOL.out).2.2); (case aB => exact HB10.out); (case aF => exact (fun _ _ => trivial)); (case aS => exact (below_size HB10.out)); (case aL => have := HLy.out; have := congrArg List.length Ny.out; rw [List.length_singleton] at this; omega); intro v155 w11 ho hb hg hat; rw [Ny.out, ← HE.out] at ho; have HO11 := Lib.hid ho; have HX11 := Lib.hid (blk_grown HX10.out hg (Kd.R_ne HO10.out HX10.out (by decide))); have HB11 := Lib.hid hb; clear ho hb hg hat HO10 HX10 HB10 HOL))
        go_roundw
        case rel => exact ⟨i + 1, by go_num, by omega, HO11, HX11, HB11⟩
        case measure => simp [intOf]; omega
    · obtain rfl : i = c.f2.length := by omega
      obtain ⟨As, cs, es⟩ := Kd.R_slice HO.out
      subst es
      have y1 := (blk_cell HX.out 0).trans rfl
      have y3 := pw_cell_below HB.out H3.out
      have hmf : ∀ (fn : Fn) (first cap : Array Value) (w : World), (Instr.makeFunc fn first cap).run Try.prog w = .ok (.func fn first cap) w := fun _ _ _ _ => rfl
      go_wp2_with fail
      refine (equal_c A3 c3 c.f3 As cs (safeTo c.f2 c.f2.length) gb p c _ hlm HL.out (Kd.C_below HM.out HB.out) (Kd.R_reads' HO.out).2.2 ((blk_cell HX.out 0).trans rfl) (HC.out.below HB.out)).mono ?_
      rintro e w12 ⟨b, rfl, hbi, hb⟩
      have HT := Lib.hid hbi
      have HB12 := Lib.hid (below_step HB.out hb)
      clear hbi hb y1 y3 hmf
      go_wp2
      go_ret
      exact tells_is HT.out HB12.out

end Go.Proofs.Ytkfeoilnhpfknaa.ImFnExactImageRead
