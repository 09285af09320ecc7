/- Contracts of slices.EqualFunc over maps and safe places, and of isSafe. -/
import Derived.Test.YtkfeoilnhpfknaaImcFnExactImageRead
namespace Go.Proofs.Ytkfeoilnhpfknaa.ImFnExactImageRead
open Go.RowKit Go.Proofs.Ytkfeoilnhpfknaa.QFnExactImageRead Go.Proofs.YtkfeoilnhpfknaaW.PrintWords Go.Proofs.YtkfeoilnhpfknaaW.PrintLast

/-- Is an instruction a safe place? -/
def safeB (f0 : Int) : Bool := if f0 = 10 then true else if f0 = 11 then true else f0 == 23
set_option maxHeartbeats 1000000 in
theorem safe_c (f0 f1 f2 f3 f4 : Int) (w : World) : Calls Try.prog 74 #[.agg #[.int .i64 f0, .int .i64 f1, .int .i64 f2, .int .i64 f3, .int .i64 f4]] w fun e w' => e = .returned (.bool (safeB f0)) ∧ Below w.heap.size w w' := by
  have hu68 := Try.underlying68
  obtain ⟨v, hv⟩ : ∃ v, safeB f0 = v := ⟨_, rfl⟩
  rw [hv]
  have HV := Lib.hid hv
  clear hv
  by_cases h1 : f0 = 10
  · have b1 : (f0 == 10) = true := beq_iff_eq.2 h1
    have HV2 := Lib.hid ((show safeB f0 = true from if_pos h1).symm.trans HV.out)
    clear h1
    go_enter Try.func74, Try.ntmps74
    go_wp2_with (first | ((with_reducible refine gate_dst (N := 1) rfl ?_); refine box_event ?hg (N := 1) ?hd (cs := #[.int .i64 f0, .int .i64 f1, .int .i64 f2, .int .i64 f3, .int .i64 f4]) (t := 68) ?hr ?_; (case hd => rfl); (case hg => rfl); (case hr => first | (go_simp; done) | (go_simp; rfl)); intro gb hg w6 hbox hb; clear hg; have z0 := (blk_cell hbox 0).trans rfl; have HB := Lib.hid hb; clear hbox hb))
    go_ret
    exact ⟨by rw [← HV2.out]; rfl, HB.out⟩
  have b1 : (f0 == 10) = false := beq_eq_false_iff_ne.2 h1
  by_cases h2 : f0 = 11
  · have b2 : (f0 == 11) = true := beq_iff_eq.2 h2
    have HV2 := Lib.hid ((show safeB f0 = true from by unfold safeB; rw [if_neg h1, if_pos h2]).symm.trans HV.out)
    clear h1 h2
    go_enter Try.func74, Try.ntmps74
    go_wp2_with (first | ((with_reducible refine gate_dst (N := 1) rfl ?_); refine box_event ?hg (N := 1) ?hd (cs := #[.int .i64 f0, .int .i64 f1, .int .i64 f2, .int .i64 f3, .int .i64 f4]) (t := 68) ?hr ?_; (case hd => rfl); (case hg => rfl); (case hr => first | (go_simp; done) | (go_simp; rfl)); intro gb hg w6 hbox hb; clear hg; have z0 := (blk_cell hbox 0).trans rfl; have HB := Lib.hid hb; clear hbox hb))
    go_ret
    exact ⟨by rw [← HV2.out]; rfl, HB.out⟩
  have b2 : (f0 == 11) = false := beq_eq_false_iff_ne.2 h2
  have HV2 := Lib.hid ((show safeB f0 = (f0 == 23) from by unfold safeB; rw [if_neg h1, if_neg h2]).symm.trans HV.out)
  clear h1 h2
  go_enter Try.func74, Try.ntmps74
  go_wp2_with (first | ((with_reducible refine gate_dst (N := 1) rfl ?_); refine box_event ?hg (N := 1) ?hd (cs := #[.int .i64 f0, .int .i64 f1, .int .i64 f2, .int .i64 f3, .int .i64 f4]) (t := 68) ?hr ?_; (case hd => rfl); (case hg => rfl); (case hr => first | (go_simp; done) | (go_simp; rfl)); intro gb hg w6 hbox hb; clear hg; have z0 := (blk_cell hbox 0).trans rfl; have HB := Lib.hid hb; clear hbox hb))
  go_ret
  exact ⟨by rw [← HV2.out]; rfl, HB.out⟩

def AllOk (frame : Int) (maps : List S72) (safe : List Int) : Prop := maps.length = safe.length ∧ ∀ j : Nat, j < maps.length → MapOk frame (rd_T72 maps j) (rd safe j)

set_option maxHeartbeats 4000000 in
set_option maxRecDepth 100000 in
theorem equal_c (Am : Option Addr) (cm : Nat) (maps : List S72) (As : Option Addr) (cs : Nat) (safe : List Int) (gb : Nat) (p : Addr) (c : S53) (w : World) (hlm : maps.length ≤ 1099511627776) (hls : ∀ j : Nat, j < maps.length → (rd_T72 maps j).f1.length ≤ 1099511627776)
    (hr : Kd.C k72 w Am maps.length maps) (hs : Kd.C (Kd.int .i64) w As safe.length safe) (hb : w.cell? ⟨gb, 0, none⟩ = some (.pointer (some p))) (hC : MemC w p c) :
    Calls Try.prog 75 #[.slice Am maps.length cm, .slice As safe.length cs, .func (.func 76) #[] #[.pointer (some ⟨gb, 0, none⟩)]] w (Tells (AllOk c.f0 maps safe) w) := by
  have HM := Lib.hid hr
  have HA := Lib.hid hs
  have HC := Lib.hid hC
  have HP := Lib.hid hb
  have HL := Lib.hid hls
  have hu72 := Try.underlying72
  clear hr hs hC hb hls
  by_cases hlen : maps.length = safe.length
  · have b1 : ((maps.length : Int) != (safe.length : Int)) = false := bne_eq_false_iff_eq.2 (by omega)
    have HE := Lib.hid hlen
    clear hlen
    go_enter Try.func75, Try.ntmps75
    go_wp2
    go_loopw [7, 17] (fun v7 v17 w' => ∃ i : Nat, v17 = .int .i64 i ∧ i ≤ maps.length ∧ Hid (∀ j : Nat, j < i → MapOk c.f0 (rd_T72 maps j) (rd safe j)) ∧ Hid (Below w.heap.size w w')) (fun _ v17 _ => (maps.length - intOf v17).toNat)
    case atStart => exact ⟨0, rfl, by omega, Lib.hid (fun j hj => by omega), Lib.hid (Below.refl _ _)⟩
    case round =>
      obtain ⟨i, rfl, hi, HF, HB⟩ := hrel
      by_cases hlt : i < maps.length
      · have p0 : (0 : Int) ≤ (i : Int) := by omega
        have q0 : (i : Int) < (maps.length : Int) := by omega
        have q1 : (i : Int) < (safe.length : Int) := by have := HE.out; omega
        obtain ⟨ad, A1, c1, e1, hx0, hx1, _, hx2⟩ := at_T72 HM.out i p0 q0
        subst e1
        rw [Int.toNat_natCast] at hx0 hx1
        replace hx0 := pw_cell_below HB.out hx0
        replace hx1 := pw_cell_below HB.out hx1
        have HX := Lib.hid hx2
        clear hx2
        go_upto_region 6 with (first | ((with_reducible refine gate_dst (N := 8) rfl ?_); refine box_event ?hg (N := 8) ?hd (cs := #[.int .i64 0, .slice none 0 0]) (t := 72) ?hr ?_; (case hd => rfl); (case hg => rfl); (case hr => first | (go_simp; done) | (go_simp; rfl)); intro g1 hg w6 hbox hb; have hg1 := Nat.le_trans HB.out.size (Nat.le_of_eq hg.symm); clear hg; replace hx0 := pw_cell_below hb hx0; replace hx1 := pw_cell_below hb hx1; have z0 := (blk_cell hbox 0).trans rfl; have z1 := (blk_cell hbox 1).trans rfl; have fz0 := blk_frozen hbox 0; have fz1 := blk_frozen hbox 1; have HB6 := Lib.hid (below_step HB.out hb); have HBX := Lib.hid hbox; have HG := Lib.hid hg1; clear hbox hb hg1))
        clear hx0 hx1 z0 z1 fz0 fz1
        have HB8 := Lib.hid (below_set (below_set HB6.out (j := 0) (v := .int .i64 (rd_T72 maps i).f0) HG.out) (j := 1) (v := .slice A1 (rd_T72 maps i).f1.length c1) HG.out)
        have HBX8 : Hid (((w6.setCell ⟨g1, 0, none⟩ (.int .i64 (rd_T72 maps i).f0)).setCell ⟨g1, 1, none⟩ (.slice A1 (rd_T72 maps i).f1.length c1)).heap[g1]? = some (.cells #[.int .i64 (rd_T72 maps i).f0, .slice A1 (rd_T72 maps i).f1.length c1] 72 (0, 0))) := Lib.hid (by simpa using blk_set (blk_set HBX.out 0 (.int .i64 (rd_T72 maps i).f0)) 1 (.slice A1 (rd_T72 maps i).f1.length c1))
        generalize (w6.setCell ⟨g1, 0, none⟩ (.int .i64 (rd_T72 maps i).f0)).setCell ⟨g1, 1, none⟩ (.slice A1 (rd_T72 maps i).f1.length c1) = w8 at HB8 HBX8 ⊢
        obtain ⟨ad2, e2, hy⟩ := Kd.at_int (Kd.C_below HA.out HB8.out) i p0 q1
        subst e2
        rw [Int.toNat_natCast] at hy
        have z0 := (blk_cell HBX8.out 0).trans rfl
        have z1 := (blk_cell HBX8.out 1).trans rfl
        go_wp2_with fail
        refine (one_map A1 c1 (rd_T72 maps i) (rd safe i) gb p c _ (HL.out i hlt) (Kd.C_below HX.out HB8.out) (pw_cell_below HB8.out HP.out) (HC.out.below HB8.out)).mono ?_
        clear hy z0 z1 HBX8 HBX HG HX HB6
        rintro e w9 ⟨b, rfl, hbi, hb9⟩
        have HB9 := Lib.hid (below_step HB8.out hb9)
        clear hb9
        cases b
        · have HN : Hid (¬ AllOk c.f0 maps safe) := Lib.hid (fun h => by have := hbi.2 (h.2 i hlt); cases this)
          clear hbi
          go_wp2
          go_ret
          exact tells_no HN.out HB9.out
        · have HF2 : Hid (∀ j : Nat, j < i + 1 → MapOk c.f0 (rd_T72 maps j) (rd safe j)) := Lib.hid (fun j hj => by
            by_cases e : j = i
            · subst e; exact hbi.1 rfl
            · exact HF.out j (by omega))
          clear hbi
          go_wp2
          go_roundw
          case rel => exact ⟨i + 1, by go_num, by omega, HF2, HB9⟩
          case measure => simp [intOf]; omega
      · have HY : Hid (AllOk c.f0 maps safe) := Lib.hid ⟨HE.out, fun j hj => HF.out j (by omega)⟩
        go_wp2
        go_ret
        exact tells_is (by simp [HY.out]) HB.out
  · have b1 : ((maps.length : Int) != (safe.length : Int)) = true := bne_iff_ne.2 (by omega)
    have HN : Hid (¬ AllOk c.f0 maps safe) := Lib.hid (fun h => hlen h.1)
    clear hlen
    go_enter Try.func75, Try.ntmps75
    go_wp2
    go_ret
    exact tells_no HN.out (Below.refl _ _)

end Go.Proofs.Ytkfeoilnhpfknaa.ImFnExactImageRead
