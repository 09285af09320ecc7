/- The contract of (*impl.Image).codeOk. Written by wip/gen_code.py. -/
import Derived.Test.YtkfeoilnhpfknaaImeFnExactImageRead
namespace Go.Proofs.Ytkfeoilnhpfknaa.ImFnExactImageRead
open Go.RowKit Go.Proofs.Ytkfeoilnhpfknaa.QFnExactImageRead Go.Proofs.YtkfeoilnhpfknaaW.PrintWords Go.Proofs.YtkfeoilnhpfknaaW.PrintLast

theorem in_vq (a b c : Int) (v : Bool) (h : inB a b c = v) (w : World) : Calls Try.prog 27 #[.int .i64 a, .int .i64 b, .int .i64 c] w fun e w' => e = .returned (.bool v) ∧ w' = w := by
  rw [← h]; exact in_q _ _ _ _
theorem reg_v (a : Int) (v : Bool) (h : inB a 0 15 = v) (w : World) : Calls Try.prog 54 #[.int .i64 a] w fun e w' => e = .returned (.bool v) ∧ w = w' := by
  rw [← h]; exact reg_c _ _
def SaysV (v : Bool) (w : World) (e : Ending) (w' : World) : Prop := e = .returned (.bool v) ∧ Below w.heap.size w w'
theorem num_v (g : Nat) (p : Addr) (l0 : List (List Bool)) (l1 : List S53) (a2 : Int) (c : S53) (f0 f1 f2 f3 f4 : Int) (v : Bool) (h : numOk f0 f4 c.f0 c.f2.length l0.length l1.length = v) (w : World) (hI : MemI w g l0 l1 a2) (hC : MemC w p c) : Calls Try.prog 55 #[.pointer (some ⟨g, 0, none⟩), .pointer (some p), .agg #[.int .i64 f0, .int .i64 f1, .int .i64 f2, .int .i64 f3, .int .i64 f4]] w (SaysV v w) := by
  rw [← h]; exact number g p l0 l1 a2 c f0 f1 f2 f3 f4 w hI hC

def InsOk (ns nc : Nat) (c : S53) (x : S68) : Prop := inB x.f0 0 27 = true ∧ inB x.f1 0 15 = true ∧ inB x.f2 0 15 = true ∧ inB x.f3 0 15 = true ∧ numOk x.f0 x.f4 c.f0 c.f2.length ns nc = true
def CodeOk (ns nc : Nat) (c : S53) : Prop := (inB c.f1 0 4 = true ∧ inB c.f0 (wrap64 (3 + c.f1)) 1000 = true ∧ inB c.f2.length 1 6000 = true) ∧ (∀ j : Nat, j < c.f2.length → InsOk ns nc c (rd_T68 c.f2 j)) ∧ MapsOk c

set_option maxHeartbeats 8000000 in
set_option maxRecDepth 100000 in
theorem code_c (g : Nat) (p : Addr) (l0 : List (List Bool)) (l1 : List S53) (a2 : Int) (c : S53) (w : World) (hlm : c.f3.length ≤ 1099511627776) (hli : c.f2.length ≤ 1099511627776) (hls : ∀ j : Nat, j < c.f3.length → (rd_T72 c.f3 j).f1.length ≤ 1099511627776) (hI : MemI w g l0 l1 a2) (hC : MemC w p c) :
    Calls Try.prog 30 #[.pointer (some ⟨g, 0, none⟩), .pointer (some p)] w (Tells (CodeOk l0.length l1.length c) w) := by
  have HC := Lib.hid hC
  have HM := Lib.hid hI
  have HL := Lib.hid hls
  have hu68 := Try.underlying68
  obtain ⟨A2, c2, A3, c3, hC0, hC1, hC2, hC3, hC4, hC5⟩ := hC
  have HI := Lib.hid hC4
  clear hls hI hC3 hC4 hC5
  obtain ⟨q, hq⟩ : ∃ q, IntKind.i64.wrap (3 + c.f1) = q := ⟨_, rfl⟩
  cases hA : inB c.f1 0 4
  · have HN : Hid (¬ CodeOk l0.length l1.length c) := Lib.hid (fun h => by have := h.1.1; rw [hA] at this; cases this)
    have HA := Lib.hid hA
    clear hA
    go_enter Try.func30, Try.ntmps30
    go_wp2
    go_quiet ((go_at_call 27; first | with_reducible exact Calls.quiet_of_same (in_vq _ _ _ _ HA.out _)))
    go_wp2
    go_ret
    exact tells_no HN.out (by first | exact pw_below_drewN (Below.refl _ _) _ | exact Below.refl _ _)
  have HA := Lib.hid hA
  cases hA2 : inB c.f0 q 1000
  · have HN : Hid (¬ CodeOk l0.length l1.length c) := Lib.hid (fun h => by have := h.1.2.1; rw [← i64_w, hq, hA2] at this; cases this)
    have HA2 := Lib.hid hA2
    clear hA hA2
    go_enter Try.func30, Try.ntmps30
    go_wp2
    go_quiet ((go_at_call 27; first | with_reducible exact Calls.quiet_of_same (in_vq _ _ _ _ HA.out _) | with_reducible exact Calls.quiet_of_same (in_vq _ _ _ _ HA2.out _)))
    go_wp2
    go_ret
    exact tells_no HN.out (by first | exact pw_below_drewN (Below.refl _ _) _ | exact Below.refl _ _)
  have HA2 := Lib.hid hA2
  cases hA3 : inB c.f2.length 1 6000
  · have HN : Hid (¬ CodeOk l0.length l1.length c) := Lib.hid (fun h => by have := h.1.2.2; rw [hA3] at this; cases this)
    have HA3 := Lib.hid hA3
    clear hA hA2 hA3
    go_enter Try.func30, Try.ntmps30
    go_wp2
    go_quiet ((go_at_call 27; first | with_reducible exact Calls.quiet_of_same (in_vq _ _ _ _ HA.out _) | with_reducible exact Calls.quiet_of_same (in_vq _ _ _ _ HA2.out _) | with_reducible exact Calls.quiet_of_same (in_vq _ _ _ _ HA3.out _)))
    go_wp2
    go_ret
    exact tells_no HN.out (by first | exact pw_below_drewN (Below.refl _ _) _ | exact Below.refl _ _)
  have HA3 := Lib.hid hA3
  have HH : Hid (inB c.f1 0 4 = true ∧ inB c.f0 (wrap64 (3 + c.f1)) 1000 = true ∧ inB c.f2.length 1 6000 = true) := Lib.hid ⟨hA, by rw [← i64_w, hq]; exact hA2, hA3⟩
  clear hA hA2 hA3
  go_enter Try.func30, Try.ntmps30
  go_wp2
  go_quiet ((go_at_call 27; first | with_reducible exact Calls.quiet_of_same (in_vq _ _ _ _ HA.out _) | with_reducible exact Calls.quiet_of_same (in_vq _ _ _ _ HA2.out _) | with_reducible exact Calls.quiet_of_same (in_vq _ _ _ _ HA3.out _)))
  have HB0 : Hid (Below w.heap.size w (w.drewN nq)) := Lib.hid (pw_below_drewN (Below.refl _ _) _)
  generalize w.drewN nq = w1 at HB0 ⊢
  replace hC2 := pw_cell_below HB0.out hC2
  clear hC0 hC1
  go_wp2
  clear hC2
  go_loopw [40] (fun v40 wr => ∃ i : Nat, v40 = .int .i64 i ∧ i ≤ c.f2.length ∧ Hid (∀ j : Nat, j < i → InsOk l0.length l1.length c (rd_T68 c.f2 j)) ∧ Hid (Below w.heap.size w wr)) (fun v40 _ => (c.f2.length - intOf v40).toNat)
  case atStart => exact ⟨0, rfl, by omega, Lib.hid (fun j hj => by omega), HB0⟩
  case round =>
    clear HB0
    obtain ⟨i, rfl, hi, HF, HB⟩ := hrel
    by_cases hlt : i < c.f2.length
    · have p0 : (0 : Int) ≤ (i : Int) := by omega
      have q0 : (i : Int) < (c.f2.length : Int) := by omega
      obtain ⟨ad, e1, x0, x1, x2, x3, x4⟩ := at_T68 HI.out i p0 q0
      subst e1
      rw [Int.toNat_natCast] at x0 x1 x2 x3 x4
      replace x0 := pw_cell_below HB.out x0
      replace x1 := pw_cell_below HB.out x1
      replace x2 := pw_cell_below HB.out x2
      replace x3 := pw_cell_below HB.out x3
      replace x4 := pw_cell_below HB.out x4
      go_upto_region 6 with (first | ((with_reducible refine gate_dst (N := 6) rfl ?_); refine box_event ?hg (N := 6) ?hd (cs := #[.int .i64 0, .int .i64 0, .int .i64 0, .int .i64 0, .int .i64 0]) (t := 68) ?hr ?_; (case hd => rfl); (case hg => rfl); (case hr => first | (go_simp; done) | (go_simp; rfl)); intro g1 hg w6 hbox hb; have hg1 := Nat.le_of_eq hg.symm; clear hg; replace x0 := pw_cell_below hb x0; replace x1 := pw_cell_below hb x1; replace x2 := pw_cell_below hb x2; replace x3 := pw_cell_below hb x3; replace x4 := pw_cell_below hb x4; have z0 := (blk_cell hbox 0).trans rfl; have z1 := (blk_cell hbox 1).trans rfl; have z2 := (blk_cell hbox 2).trans rfl; have z3 := (blk_cell hbox 3).trans rfl; have z4 := (blk_cell hbox 4).trans rfl; have f0 := blk_frozen hbox 0; have f1 := blk_frozen hbox 1; have f2 := blk_frozen hbox 2; have f3 := blk_frozen hbox 3; have f4 := blk_frozen hbox 4; have HB6 := Lib.hid hb; have HBX := Lib.hid hbox; have HG1 := Lib.hid hg1; clear hbox hb hg1))
      clear x0 x1 x2 x3 x4 z0 z1 z2 z3 z4 f0 f1 f2 f3 f4
      have HBr : Hid (Below wr.heap.size wr (((((w6.setCell ⟨g1, 0, none⟩ (.int .i64 (rd_T68 c.f2 i).f0)).setCell ⟨g1, 1, none⟩ (.int .i64 (rd_T68 c.f2 i).f1)).setCell ⟨g1, 2, none⟩ (.int .i64 (rd_T68 c.f2 i).f2)).setCell ⟨g1, 3, none⟩ (.int .i64 (rd_T68 c.f2 i).f3)).setCell ⟨g1, 4, none⟩ (.int .i64 (rd_T68 c.f2 i).f4))) := Lib.hid (below_set (below_set (below_set (below_set (below_set HB6.out HG1.out) HG1.out) HG1.out) HG1.out) HG1.out)
      have HB1 : Hid ((((((w6.setCell ⟨g1, 0, none⟩ (.int .i64 (rd_T68 c.f2 i).f0)).setCell ⟨g1, 1, none⟩ (.int .i64 (rd_T68 c.f2 i).f1)).setCell ⟨g1, 2, none⟩ (.int .i64 (rd_T68 c.f2 i).f2)).setCell ⟨g1, 3, none⟩ (.int .i64 (rd_T68 c.f2 i).f3)).setCell ⟨g1, 4, none⟩ (.int .i64 (rd_T68 c.f2 i).f4)).heap[g1]? = some (.cells #[.int .i64 (rd_T68 c.f2 i).f0, .int .i64 (rd_T68 c.f2 i).f1, .int .i64 (rd_T68 c.f2 i).f2, .int .i64 (rd_T68 c.f2 i).f3, .int .i64 (rd_T68 c.f2 i).f4] 68 (0, 0))) := Lib.hid (by simpa using blk_set (blk_set (blk_set (blk_set (blk_set HBX.out 0 (.int .i64 (rd_T68 c.f2 i).f0)) 1 (.int .i64 (rd_T68 c.f2 i).f1)) 2 (.int .i64 (rd_T68 c.f2 i).f2)) 3 (.int .i64 (rd_T68 c.f2 i).f3)) 4 (.int .i64 (rd_T68 c.f2 i).f4))
      generalize (((((w6.setCell ⟨g1, 0, none⟩ (.int .i64 (rd_T68 c.f2 i).f0)).setCell ⟨g1, 1, none⟩ (.int .i64 (rd_T68 c.f2 i).f1)).setCell ⟨g1, 2, none⟩ (.int .i64 (rd_T68 c.f2 i).f2)).setCell ⟨g1, 3, none⟩ (.int .i64 (rd_T68 c.f2 i).f3)).setCell ⟨g1, 4, none⟩ (.int .i64 (rd_T68 c.f2 i).f4)) = w8 at HBr HB1 ⊢
      clear HB6 HBX HG1
      have HB8 := Lib.hid (below_step HB.out HBr.out)
      clear HB HBr
      have z0 := (blk_cell HB1.out 0).trans rfl
      have z1 := (blk_cell HB1.out 1).trans rfl
      have z2 := (blk_cell HB1.out 2).trans rfl
      have z3 := (blk_cell HB1.out 3).trans rfl
      have z4 := (blk_cell HB1.out 4).trans rfl
      clear HB1
      obtain ⟨x, hx⟩ : ∃ x, x = rd_T68 c.f2 i := ⟨_, rfl⟩
      have HXE := Lib.hid hx
      rw [← hx] at z0 z1 z2 z3 z4
      clear hx
      cases k0 : inB x.f0 0 27
      · have HN : Hid (¬ CodeOk l0.length l1.length c) := Lib.hid (fun hh => by have h := hh.2.1 i hlt; rw [← HXE.out] at h; have := h.1; rw [k0] at this; cases this)
        have K0 := Lib.hid k0
        clear k0
        go_wp2_with fail
        refine (in_w _ _ _ _ K0.out _).mono ?_
        rintro e w' ⟨rfl, rfl⟩
        go_wp2
        go_ret
        exact tells_no HN.out HB8.out
      have K0 := Lib.hid k0
      clear k0
      cases k1 : inB x.f1 0 15
      · have HN : Hid (¬ CodeOk l0.length l1.length c) := Lib.hid (fun hh => by have h := hh.2.1 i hlt; rw [← HXE.out] at h; have := h.2.1; rw [k1] at this; cases this)
        have K1 := Lib.hid k1
        clear k1
        go_wp2_with fail
        refine (in_w _ _ _ _ K0.out _).mono ?_
        rintro e w' ⟨rfl, rfl⟩
        go_wp2_with fail
        refine (reg_v _ _ K1.out _).mono ?_
        rintro e w' ⟨rfl, rfl⟩
        go_wp2
        go_ret
        exact tells_no HN.out HB8.out
      have K1 := Lib.hid k1
      clear k1
      cases k2 : inB x.f2 0 15
      · have HN : Hid (¬ CodeOk l0.length l1.length c) := Lib.hid (fun hh => by have h := hh.2.1 i hlt; rw [← HXE.out] at h; have := h.2.2.1; rw [k2] at this; cases this)
        have K2 := Lib.hid k2
        clear k2
        go_wp2_with fail
        refine (in_w _ _ _ _ K0.out _).mono ?_
        rintro e w' ⟨rfl, rfl⟩
        go_wp2_with fail
        refine (reg_v _ _ K1.out _).mono ?_
        rintro e w' ⟨rfl, rfl⟩
        go_wp2_with fail
        refine (reg_v _ _ K2.out _).mono ?_
        rintro e w' ⟨rfl, rfl⟩
        go_wp2
        go_ret
        exact tells_no HN.out HB8.out
      have K2 := Lib.hid k2
      clear k2
      cases k3 : inB x.f3 0 15
      · have HN : Hid (¬ CodeOk l0.length l1.length c) := Lib.hid (fun hh => by have h := hh.2.1 i hlt; rw [← HXE.out] at h; have := h.2.2.2.1; rw [k3] at this; cases this)
        have K3 := Lib.hid k3
        clear k3
        go_wp2_with fail
        refine (in_w _ _ _ _ K0.out _).mono ?_
        rintro e w' ⟨rfl, rfl⟩
        go_wp2_with fail
        refine (reg_v _ _ K1.out _).mono ?_
        rintro e w' ⟨rfl, rfl⟩
        go_wp2_with fail
        refine (reg_v _ _ K2.out _).mono ?_
        rintro e w' ⟨rfl, rfl⟩
        go_wp2_with fail
        refine (reg_v _ _ K3.out _).mono ?_
        rintro e w' ⟨rfl, rfl⟩
        go_wp2
        go_ret
        exact tells_no HN.out HB8.out
      have K3 := Lib.hid k3
      clear k3
      cases k4 : numOk x.f0 x.f4 c.f0 c.f2.length l0.length l1.length
      · have HN : Hid (¬ CodeOk l0.length l1.length c) := Lib.hid (fun hh => by have h := hh.2.1 i hlt; rw [← HXE.out] at h; have := h.2.2.2.2; rw [k4] at this; cases this)
        have K4 := Lib.hid k4
        clear k4
        go_wp2_with fail
        refine (in_w _ _ _ _ K0.out _).mono ?_
        rintro e w' ⟨rfl, rfl⟩
        go_wp2_with fail
        refine (reg_v _ _ K1.out _).mono ?_
        rintro e w' ⟨rfl, rfl⟩
        go_wp2_with fail
        refine (reg_v _ _ K2.out _).mono ?_
        rintro e w' ⟨rfl, rfl⟩
        go_wp2_with fail
        refine (reg_v _ _ K3.out _).mono ?_
        rintro e w' ⟨rfl, rfl⟩
        go_wp2_with fail
        refine (num_v g p l0 l1 a2 c _ _ _ _ _ _ K4.out _ (HM.out.below HB8.out) (HC.out.below HB8.out)).mono ?_
        rintro e w9 ⟨rfl, hb⟩
        have HB9 := Lib.hid (below_step HB8.out hb)
        clear hb
        go_wp2
        go_ret
        exact tells_no HN.out HB9.out
      have K4 := Lib.hid k4
      clear k4
      have HF2 : Hid (∀ j : Nat, j < i + 1 → InsOk l0.length l1.length c (rd_T68 c.f2 j)) := Lib.hid (fun j hj => by
        by_cases e : j = i
        · subst e; rw [← HXE.out]; exact ⟨K0.out, K1.out, K2.out, K3.out, K4.out⟩
        · exact HF.out j (by omega))
      go_wp2_with fail
      refine (in_w _ _ _ _ K0.out _).mono ?_
      rintro e w' ⟨rfl, rfl⟩
      go_wp2_with fail
      refine (reg_v _ _ K1.out _).mono ?_
      rintro e w' ⟨rfl, rfl⟩
      go_wp2_with fail
      refine (reg_v _ _ K2.out _).mono ?_
      rintro e w' ⟨rfl, rfl⟩
      go_wp2_with fail
      refine (reg_v _ _ K3.out _).mono ?_
      rintro e w' ⟨rfl, rfl⟩
      go_wp2_with fail
      refine (num_v g p l0 l1 a2 c _ _ _ _ _ _ K4.out _ (HM.out.below HB8.out) (HC.out.below HB8.out)).mono ?_
      rintro e w9 ⟨rfl, hb⟩
      have HB9 := Lib.hid (below_step HB8.out hb)
      clear hb
      clear z0 z1 z2 z3 z4
      go_wp2
      go_roundw
      case rel => exact ⟨i + 1, by go_num, by omega, HF2, HB9⟩
      case measure => simp [intOf]; omega
    · have HF2 : Hid (∀ j : Nat, j < c.f2.length → InsOk l0.length l1.length c (rd_T68 c.f2 j)) := Lib.hid (fun j hj => HF.out j (by omega))
      go_wp2_with fail
      refine (maps_c p c _ hlm hli HL.out (HC.out.below HB.out)).mono ?_
      rintro e w9 ⟨b, rfl, hbi, hb⟩
      have HT : Hid (b = true ↔ CodeOk l0.length l1.length c) := Lib.hid (hbi.trans ⟨fun h => ⟨HH.out, HF2.out, h⟩, fun h => h.2.2⟩)
      have HB9 := Lib.hid (below_step HB.out hb)
      clear hbi hb
      go_wp2
      go_ret
      exact tells_is HT.out HB9.out

end Go.Proofs.Ytkfeoilnhpfknaa.ImFnExactImageRead
