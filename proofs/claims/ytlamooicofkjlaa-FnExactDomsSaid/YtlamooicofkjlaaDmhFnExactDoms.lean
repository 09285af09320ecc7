/- The contract of (*impl.Fn).before. -/
import Derived.Test.YtlamooicofkjlaaDmgFnExactDoms
import Derived.Deep.RegionHeldLaw
namespace Go.Proofs.Ytlamooicofkjlaa.DmFnExactDoms
open Go.RowKit Go.Proofs.Ytlamooicofkjlaa.QFnExactDoms Go.Proofs.YtlamooicofkjlaaW.PrintWords Go.Proofs.YtlamooicofkjlaaW.PrintLast Go.Proofs.Ytlamooicofkjlaa.SrFnExactDoms
set_option linter.unusedVariables false
set_option linter.unusedSimpArgs false

/-- The blocks that lead to each, as a list of own. -/
def Before (B : List S70) (w : World) (e : Ending) (w' : World) : Prop := ∃ v Pr, e = .returned v ∧ Pre B Pr ∧ Kd.S kLI 30 w' w.heap.size (fun _ => True) v (prow Pr) ∧ Below w.heap.size w w'
theorem cell_far (w : World) {gb k : Nat} (h : k ≠ gb) (v : Value) (i j : Nat) : (w.setCell ⟨gb, i, none⟩ v).cell? ⟨k, j, none⟩ = w.cell? ⟨k, j, none⟩ :=
  World.cell?_of_block (Below.heap_setCell w ⟨gb, i, none⟩ v k h)

set_option maxHeartbeats 8000000 in
set_option maxRecDepth 100000 in
theorem before_c (gb : Nat) (B : List S70) (w : World) (hM : MemB w gb B) (hE : EdgesIn B) (hs : ∀ u, (eds B u).length ≤ 2097152) : Calls Try.prog 40 #[.pointer (some ⟨gb, 0, none⟩)] w (Before B w) := by
  have HE := Lib.hid hE
  have HSs := Lib.hid hs
  have hn : B.length ≤ 400 := hE.le
  have hu72 := Try.underlying72
  have hu70 := Try.underlying70
  have hu37 := Try.underlying37
  obtain ⟨A, c, y4, hC⟩ := hM
  have HC := Lib.hid hC
  have Y4 := Lib.hid y4
  clear hE hC hs
  go_enter Try.func40, Try.ntmps40
  go_upto_region 2 with ((with_reducible refine gate_dst (N := 13) rfl ?_); refine Kd.S_make kLI _ 30 rfl (N := 13) rfl 84 _ _ rfl (B.length : Int) rfl rfl Try.underlying84 (.slice none 0 0) 24 info30 rfl (by decide) (by omega) [] (ok := fun _ => True) (okp := fun _ => True) ⟨_, rfl, Kd.R_nil _ _ _ _ _⟩ (fun _ hk => hk) trivial (by omega) (by omega) (Below.refl _ _) (Nat.le_refl _) ?_; intro v3 w3 hs hb hg_ hnew_; clear hg_ hnew_; rw [Int.toNat_natCast] at hs; have HS := Lib.hid hs; have HB := Lib.hid hb; replace y4 := pw_cell_below hb y4; clear hs hb)
  have HS0 : Hid (Kd.S kLI 30 w3 w.heap.size (fun _ => True) v3 (prow (List.replicate B.length []))) := Lib.hid (by have := HS.out; unfold prow; rw [List.map_replicate]; exact this)
  obtain ⟨A3, c3, e3⟩ := Kd.S_slice HS.out
  rw [List.length_replicate] at e3
  subst e3
  clear HS
  go_wp2
  clear y4
  go_loopw [4, 5, 19] (fun v4 v5 v19 wr => ∃ (i : Nat) (Pr : List (List Nat)), v19 = .int .i64 i ∧ i ≤ B.length ∧ Hid (PInv B Pr i 0) ∧ Hid (Kd.S kLI 30 wr w.heap.size (fun _ => True) (.slice A3 B.length c3) (prow Pr)) ∧ Hid (Below w.heap.size w wr)) (fun _ _ v19 _ => (B.length - intOf v19).toNat)
  case atStart => exact ⟨0, _, rfl, by omega, Lib.hid (PInv.start B), HS0, HB⟩
  case round =>
    clear HS0 HB
    obtain ⟨i, Pr, rfl, hi, HI, HS, HB⟩ := hrel
    by_cases hlt : i < B.length
    · have p0 : (0 : Int) ≤ (i : Int) := by omega
      have q0 : (i : Int) < (B.length : Int) := by omega
      obtain ⟨ad, A0, c0, A1, c1, A4', c13, A4, c4, e1, x0, x1, x2, x3, x4, _, _, _, _, _, _, _, g4⟩ := at_T70 HC.out i p0 q0
      subst e1
      rw [Int.toNat_natCast] at x0 x1 x2 x3 x4
      rw [rd70] at x4 g4
      have HG4 := Lib.hid g4
      replace x0 := pw_cell_below HB.out x0
      replace x1 := pw_cell_below HB.out x1
      replace x2 := pw_cell_below HB.out x2
      replace x3 := pw_cell_below HB.out x3
      replace x4 := pw_cell_below HB.out x4
      clear g4
      obtain ⟨g3, cc3, e3, hg3, hl3, _⟩ := Kd.S_form HS.out (by unfold prow; rw [List.length_map, HI.out.len]; omega)
      have ea : A3 = some ⟨g3, 0, none⟩ := by injection e3
      clear e3
      subst ea
      have HG3 := Lib.hid hg3
      clear hg3 hl3
      go_upto_region 5 with (first | ((with_reducible refine gate_dst (N := 5) rfl ?_); refine box_event ?hg (N := 5) ?hd (cs := #[.slice none 0 0, .slice none 0 0, .int .i64 0, .slice none 0 0, .slice none 0 0]) (t := 70) ?hr ?_; (case hd => rfl); (case hg => rfl); (case hr => first | (go_simp; done) | (go_simp; rfl)); intro g1 hg w7 hbox hb; have hg1 := Nat.le_of_eq hg.symm; clear hg; replace x0 := pw_cell_below hb x0; replace x1 := pw_cell_below hb x1; replace x2 := pw_cell_below hb x2; replace x3 := pw_cell_below hb x3; replace x4 := pw_cell_below hb x4; have z0 := (blk_cell hbox 0).trans rfl; have z1 := (blk_cell hbox 1).trans rfl; have z2 := (blk_cell hbox 2).trans rfl; have z3 := (blk_cell hbox 3).trans rfl; have z4 := (blk_cell hbox 4).trans rfl; have f0 := blk_frozen hbox 0; have f1 := blk_frozen hbox 1; have f2 := blk_frozen hbox 2; have f3 := blk_frozen hbox 3; have f4 := blk_frozen hbox 4; have HB6 := Lib.hid hb; have HBX := Lib.hid hbox; have HG1 := Lib.hid hg1; clear hbox hb hg1))
      clear x0 x1 x2 x3 x4 z0 z1 z2 z3 z4 f0 f1 f2 f3 f4
      have HBr := Lib.hid (below5 HB6.out HG1.out (.slice A0 (rd_T70 B i).f0.length c0) (.slice A1 (rd_T70 B i).f1.length c1) (.int .i64 (rd_T70 B i).f2) (.slice A4' (rd_T70 B i).f3.length c13) (.slice A4 (eds B i).length c4))
      have HB1 := Lib.hid (set5 HBX.out (.slice A0 (rd_T70 B i).f0.length c0) (.slice A1 (rd_T70 B i).f1.length c1) (.int .i64 (rd_T70 B i).f2) (.slice A4' (rd_T70 B i).f3.length c13) (.slice A4 (eds B i).length c4))
      generalize (((((w7.setCell ⟨g1, 0, none⟩ (.slice A0 (rd_T70 B i).f0.length c0)).setCell ⟨g1, 1, none⟩ (.slice A1 (rd_T70 B i).f1.length c1)).setCell ⟨g1, 2, none⟩ (.int .i64 (rd_T70 B i).f2)).setCell ⟨g1, 3, none⟩ (.slice A4' (rd_T70 B i).f3.length c13)).setCell ⟨g1, 4, none⟩ (.slice A4 (eds B i).length c4)) = w8 at HBr HB1 ⊢
      clear HB6 HBX HG1
      have z4 := (blk_cell HB1.out 4).trans rfl
      have HB8 := Lib.hid (below_step HB.out HBr.out HB.out.size)
      have HS8 := Lib.hid (Kd.S_below HS.out HBr.out)
      clear HS HB HBr HB1
      have HSz := Lib.hid (HSs.out i)
      have hsz := HSz.out
      go_wp2
      clear z4
      have HI0 := HI
      clear HI
      go_loopw [7, 27] (fun v7 v27 wr => ∃ (k : Nat) (Pr : List (List Nat)), v27 = .int .i64 k ∧ k ≤ (eds B i).length ∧ Hid (PInv B Pr i k) ∧ Hid (Kd.S kLI 30 wr w.heap.size (fun _ => True) (.slice (some ⟨g3, 0, none⟩) B.length c3) (prow Pr)) ∧ Hid (Below w.heap.size w wr)) (fun _ v27 _ => ((eds B i).length - intOf v27).toNat)
      case atStart => exact ⟨0, _, rfl, by omega, HI0, HS8, HB8⟩
      case round =>
        clear HI0 HS8 HB8
        obtain ⟨k, Pr, rfl, hk, HI, HS, HB⟩ := hrel
        by_cases hkl : k < (eds B i).length
        · obtain ⟨ad2, A5, c6, e2, x5, x6, _, _⟩ := at_T72 HG4.out (k : Int) (by omega) (by omega)
          subst e2
          obtain ⟨y, hto2, hat, htl⟩ := edge_at HE.out i k hkl
          rw [Int.toNat_natCast] at x5 x6
          rw [hto2] at x5
          replace x5 := pw_cell_below HB.out x5
          replace x6 := pw_cell_below HB.out x6
          have k0 : (0 : Int) ≤ (k : Int) := by omega
          have k1 : (k : Int) < ((eds B i).length : Int) := by omega
          have n0 : (0 : Int) ≤ (y : Int) := by omega
          have n1 : (y : Int) < (B.length : Int) := by omega
          have HAt := Lib.hid hat
          have HTo := Lib.hid htl
          clear hat htl hto2
          go_upto_region 8 with (first | ((with_reducible refine gate_dst (N := 7) rfl ?_); refine box_event ?hg (N := 7) ?hd (cs := #[.int .i64 0, .slice none 0 0]) (t := 72) ?hr ?_; (case hd => rfl); (case hg => rfl); (case hr => first | (go_simp; done) | (go_simp; rfl)); intro g7 hg w9 hbox hb; have hg1 := Nat.le_of_eq hg.symm; clear hg; replace x5 := pw_cell_below hb x5; replace x6 := pw_cell_below hb x6; have z0 := (blk_cell hbox 0).trans rfl; have z1 := (blk_cell hbox 1).trans rfl; have f0 := blk_frozen hbox 0; have f1 := blk_frozen hbox 1; have HB6 := Lib.hid hb; have HBX := Lib.hid hbox; have HG1 := Lib.hid hg1; clear hbox hb hg1))
          clear x5 x6 z0 z1 f0 f1
          have HBr := Lib.hid (below2 HB6.out HG1.out (.int .i64 (y : Int)) (.slice A5 (rd_T72 (eds B i) k).f1.length c6))
          have HX := Lib.hid (set2 HBX.out (.int .i64 (y : Int)) (.slice A5 (rd_T72 (eds B i) k).f1.length c6))
          generalize ((w9.setCell ⟨g7, 0, none⟩ (.int .i64 (y : Int))).setCell ⟨g7, 1, none⟩ (.slice A5 (rd_T72 (eds B i) k).f1.length c6)) = w10 at HBr HX ⊢
          clear HB6 HBX HG1
          have HB11 := Lib.hid (below_drew1 (below_step HB.out HBr.out HB.out.size))
          have HS11 := Lib.hid (Kd.S_drew (Kd.S_below HS.out HBr.out))
          have HX11 : Hid (w10.drew.heap[g7]? = _) := Lib.hid HX.out
          clear HS HB HBr HX
          obtain ⟨u, hz, hf, hR, hback⟩ := lendI HS11.out y (by have := HTo.out; omega)
          rw [prow_get] at hR
          obtain ⟨nu, Au, cu, eu⟩ : ∃ n A c, u = .slice A n c := by obtain ⟨A, c, h⟩ := Kd.R_slice hR; exact ⟨_, A, c, h⟩
          subst eu
          have HR := Lib.hid hR
          have HBack := Lib.hid hback
          have HNe : Hid (g7 ≠ g3) := Lib.hid (fun e => by obtain ⟨_, hc⟩ := Kd.S_typed HS11.out g3 rfl; rw [← e, HX11.out] at hc; injection hc with hc; injection hc with _ hc; cases hc)
          have z7 := (blk_cell HX11.out 0).trans rfl
          clear hR hback
          · refine wp_region_held_drew (S := fun w' => w'.cell? ⟨g7, 0, none⟩ = some (.int .i64 (y : Int))) (by kernel_rfl) z7 (fun hHeld => ?_)
            generalize w10.drew = w11 at *
            · skip
              refine wpAnyH_take (i := 0) (v := ?_) rfl (by kernel_rfl) (by kernel_rfl) (by kernel_rfl) (fun _ _ _ h => h) (Or.inl ⟨by rfl, ?_⟩) (by assumption) ?_
              rotate_left
              · (intro w' hSw; (try dsimp only at hSw); first | (go_simp; done) | (go_simp; with_reducible rfl))
              try simp only [Act.put, List.setIfInBounds_toArray, List.set_cons_zero, List.set_cons_succ]
              refine wpAnyH_take (i := 1) (v := ?_) rfl (by kernel_rfl) (by kernel_rfl) (by kernel_rfl) (fun _ _ _ h => h) (Or.inl ⟨by rfl, ?_⟩) (by assumption) ?_
              rotate_left
              · (intro w' hSw; (try dsimp only at hSw); first | (go_simp; done) | (go_simp; with_reducible rfl))
              try simp only [Act.put, List.setIfInBounds_toArray, List.set_cons_zero, List.set_cons_succ]
              refine wpAnyH_take (i := 2) (v := ?_) rfl (by kernel_rfl) (by kernel_rfl) (by kernel_rfl) (fun _ _ _ h => h) (Or.inl ⟨by rfl, ?_⟩) (by assumption) ?_
              rotate_left
              · (intro w' hSw; (try dsimp only at hSw); first | (go_simp; done) | (go_simp; with_reducible rfl))
              try simp only [Act.put, List.setIfInBounds_toArray, List.set_cons_zero, List.set_cons_succ]
              refine wpAnyH_take (i := 3) (v := ?_) rfl (by kernel_rfl) (by kernel_rfl) (by kernel_rfl) (fun _ _ _ h => h) (Or.inl ⟨by rfl, ?_⟩) (by assumption) ?_
              rotate_left
              · (intro w' hSw; (try dsimp only at hSw); first | (go_simp; done) | (go_simp; with_reducible rfl))
              try simp only [Act.put, List.setIfInBounds_toArray, List.set_cons_zero, List.set_cons_succ]
              refine wpAnyH_take (i := 4) (v := ?_) rfl (by kernel_rfl) (by kernel_rfl) (by kernel_rfl) (fun _ _ _ h => h) (Or.inl ⟨by rfl, ?_⟩) (by assumption) ?_
              rotate_left
              · (intro w' hSw; (try dsimp only at hSw); first | (go_simp; done) | (go_simp; with_reducible rfl))
              try simp only [Act.put, List.setIfInBounds_toArray, List.set_cons_zero, List.set_cons_succ]
              refine wpAnyH_take (i := 5) (v := ?_) rfl (by kernel_rfl) (by kernel_rfl) (by kernel_rfl) (fun _ _ _ h => h) (Or.inl ⟨by rfl, ?_⟩) (by assumption) ?_
              rotate_left
              · (intro w' hSw; (try dsimp only at hSw); first | (go_simp; done) | (go_simp; with_reducible rfl))
              try simp only [Act.put, List.setIfInBounds_toArray, List.set_cons_zero, List.set_cons_succ]
              refine wpAnyH_take (i := 6) (v := ?_) rfl (by kernel_rfl) (by kernel_rfl) (by kernel_rfl) (fun _ _ _ h => h) (Or.inl ⟨by rfl, ?_⟩) (by assumption) ?_
              rotate_left
              · (intro w' hSw; (try dsimp only at hSw); first | (go_simp; done) | (go_simp; with_reducible rfl))
              try simp only [Act.put, List.setIfInBounds_toArray, List.set_cons_zero, List.set_cons_succ]
              refine wpAnyH_take (i := 8) (v := ?_) rfl (by kernel_rfl) (by kernel_rfl) (by kernel_rfl) (fun _ _ _ h => h) (Or.inl ⟨by rfl, ?_⟩) (by assumption) ?_
              rotate_left
              · (intro w' hSw; (try dsimp only at hSw); first | (go_simp; done) | (go_simp; with_reducible rfl))
              try simp only [Act.put, List.setIfInBounds_toArray, List.set_cons_zero, List.set_cons_succ]
              refine wpAnyH_ready (rs := [7, 9]) (by kernel_rfl) (by simp) ?_
              refine AllReadyH.cons rfl (fun K hK => ?_) (AllReadyH.cons rfl (fun K hK => ?_) AllReadyH.nil)
              · go_simp
                refine hK.out _ _ (by first | go_keep | exact z7) (fun hHeld => ?_)
                clear hK K
                try simp only [Act.put, List.setIfInBounds_toArray, List.set_cons_zero, List.set_cons_succ]
                refine wpAnyH_ready (rs := [9]) (by kernel_rfl) (by simp) ?_
                refine AllReadyH.cons rfl (fun K hK => ?_) AllReadyH.nil
                go_simp
                refine hK.out _ _ (by first | go_keep | exact z7) (fun hHeld => ?_)
                clear hK K
                try simp only [Act.put, List.setIfInBounds_toArray, List.set_cons_zero, List.set_cons_succ]
                refine wpAnyH_ready (rs := [10]) (by kernel_rfl) (by simp) ?_
                refine AllReadyH.cons rfl (fun K hK => ?_) AllReadyH.nil
                refine Kd.R_append_step (Kd.int .i64) (w0 := w) w.heap.size (by rfl) (.tmp 38) (.tmp 40) 30 3 (.int .i64 0) 8 (by rfl) Try.underlying30 info3 rfl (by decide) (by omega) (.slice Au nu cu) (ints (Pr.getD y [])) (i : Int) [.int .i64 (i : Int)] (fun _ => True) (fun _ => False) (by rfl) (by rfl) rfl (fun _ hk => hk.elim) (fun _ _ => trivial) HR.out HB11.out HB11.out.size (by unfold ints; rw [List.length_map]; have := HI.out.sz y; have := HSz.out; omega) ?_
                intro v9 w12 ho hb hg hat
                obtain ⟨n9, A9, c9, e9⟩ : ∃ n A c, v9 = .slice A n c := by obtain ⟨A, c, h⟩ := Kd.R_slice ho; exact ⟨_, A, c, h⟩
                subst e9
                have HT := Lib.hid (HBack.out _ _ _ hg ho hat)
                have HB12 := Lib.hid hb
                have y12 := (World.cell?_of_block (a := ⟨g7, 0, none⟩) (hg.block g7 (blk_lt HX11.out) (fun e => Kd.R_ne HR.out HX11.out (by decide) e))).trans z7
                have z12 := (World.cell?_of_block (a := ⟨g3, y, none⟩) (hg.block g3 (by obtain ⟨_, hc⟩ := Kd.S_typed HS11.out g3 rfl; exact blk_lt hc) (fun e => by obtain ⟨_, hc⟩ := Kd.S_typed HS11.out g3 rfl; exact Kd.R_ne HR.out hc (by decide) e))).trans hz
                have f12 := (World.frozen?_of_block (a := ⟨g3, y, none⟩) (hg.block g3 (by obtain ⟨_, hc⟩ := Kd.S_typed HS11.out g3 rfl; exact blk_lt hc) (fun e => by obtain ⟨_, hc⟩ := Kd.S_typed HS11.out g3 rfl; exact Kd.R_ne HR.out hc (by decide) e))).trans hf
                clear ho hb hg hat
                refine hK.out _ _ y12 (fun hHeld => ?_)
                clear hK K
                try simp only [Act.put, List.setIfInBounds_toArray, List.set_cons_zero, List.set_cons_succ]
                refine wpAnyH_ready (rs := [11]) (by kernel_rfl) (by simp) ?_
                refine AllReadyH.cons rfl (fun K hK => ?_) AllReadyH.nil
                go_simp
                refine hK.out _ _ y12 (fun hHeld => ?_)
                clear hK K
                try simp only [Act.put, List.setIfInBounds_toArray, List.set_cons_zero, List.set_cons_succ]
                refine wpAnyH_ready (rs := [12]) (by kernel_rfl) (by simp) ?_
                refine AllReadyH.cons rfl (fun K hK => ?_) AllReadyH.nil
                go_simp
                refine hK.out _ _ ((cell_far _ HNe.out _ _ _).trans y12) (fun hHeld => ?_)
                clear hK K
                try simp only [Act.put, List.setIfInBounds_toArray, List.set_cons_zero, List.set_cons_succ]
                refine wpAnyH_done (by kernel_rfl) ?_ _
                go_wp2
                clear z12 f12 y12
                generalize hW : w12.setCell ⟨g3, y, none⟩ (.slice A9 n9 c9) = w13
                have HS13 : Hid (Kd.S kLI 30 w13 w.heap.size (fun _ => True) (.slice (some ⟨g3, 0, none⟩) B.length c3) (prow (Pr.set y (Pr.getD y [] ++ [i])))) := Lib.hid (by rw [← hW, ← prow_set]; exact HT.out.1)
                have HB13 : Hid (Below w.heap.size w w13) := Lib.hid (by rw [← hW]; exact below_set HB12.out HG3.out)
                clear hW
                go_roundw
                case rel => exact ⟨k + 1, Pr.set y (Pr.getD y [] ++ [i]), by go_num, by omega, Lib.hid (HI.out.add HAt.out HTo.out), HS13, HB13⟩
                case measure => simp [intOf]; omega
              · go_simp
                refine hK.out _ _ (by first | go_keep | exact z7) (fun hHeld => ?_)
                clear hK K
                try simp only [Act.put, List.setIfInBounds_toArray, List.set_cons_zero, List.set_cons_succ]
                have hzA := pw_cell_below (below_alloc (Below.refl w11.heap.size w11) (.cells #[.int .i64 (i : Int)] 3)) hz
                refine wpAnyH_ready (rs := [7]) (by kernel_rfl) (by simp) ?_
                refine AllReadyH.cons rfl (fun K hK => ?_) AllReadyH.nil
                go_simp
                refine hK.out _ _ (by first | go_keep | exact z7) (fun hHeld => ?_)
                clear hK K
                try simp only [Act.put, List.setIfInBounds_toArray, List.set_cons_zero, List.set_cons_succ]
                refine wpAnyH_ready (rs := [10]) (by kernel_rfl) (by simp) ?_
                refine AllReadyH.cons rfl (fun K hK => ?_) AllReadyH.nil
                refine Kd.R_append_step (Kd.int .i64) (w0 := w) w.heap.size (by rfl) (.tmp 38) (.tmp 40) 30 3 (.int .i64 0) 8 (by rfl) Try.underlying30 info3 rfl (by decide) (by omega) (.slice Au nu cu) (ints (Pr.getD y [])) (i : Int) [.int .i64 (i : Int)] (fun _ => True) (fun _ => False) (by rfl) (by rfl) rfl (fun _ hk => hk.elim) (fun _ _ => trivial) HR.out HB11.out HB11.out.size (by unfold ints; rw [List.length_map]; have := HI.out.sz y; have := HSz.out; omega) ?_
                intro v9 w12 ho hb hg hat
                obtain ⟨n9, A9, c9, e9⟩ : ∃ n A c, v9 = .slice A n c := by obtain ⟨A, c, h⟩ := Kd.R_slice ho; exact ⟨_, A, c, h⟩
                subst e9
                have HT := Lib.hid (HBack.out _ _ _ hg ho hat)
                have HB12 := Lib.hid hb
                have y12 := (World.cell?_of_block (a := ⟨g7, 0, none⟩) (hg.block g7 (blk_lt HX11.out) (fun e => Kd.R_ne HR.out HX11.out (by decide) e))).trans z7
                have z12 := (World.cell?_of_block (a := ⟨g3, y, none⟩) (hg.block g3 (by obtain ⟨_, hc⟩ := Kd.S_typed HS11.out g3 rfl; exact blk_lt hc) (fun e => by obtain ⟨_, hc⟩ := Kd.S_typed HS11.out g3 rfl; exact Kd.R_ne HR.out hc (by decide) e))).trans hz
                have f12 := (World.frozen?_of_block (a := ⟨g3, y, none⟩) (hg.block g3 (by obtain ⟨_, hc⟩ := Kd.S_typed HS11.out g3 rfl; exact blk_lt hc) (fun e => by obtain ⟨_, hc⟩ := Kd.S_typed HS11.out g3 rfl; exact Kd.R_ne HR.out hc (by decide) e))).trans hf
                clear ho hb hg hat
                refine hK.out _ _ y12 (fun hHeld => ?_)
                clear hK K
                try simp only [Act.put, List.setIfInBounds_toArray, List.set_cons_zero, List.set_cons_succ]
                refine wpAnyH_ready (rs := [11]) (by kernel_rfl) (by simp) ?_
                refine AllReadyH.cons rfl (fun K hK => ?_) AllReadyH.nil
                go_simp
                refine hK.out _ _ y12 (fun hHeld => ?_)
                clear hK K
                try simp only [Act.put, List.setIfInBounds_toArray, List.set_cons_zero, List.set_cons_succ]
                refine wpAnyH_ready (rs := [12]) (by kernel_rfl) (by simp) ?_
                refine AllReadyH.cons rfl (fun K hK => ?_) AllReadyH.nil
                go_simp
                refine hK.out _ _ ((cell_far _ HNe.out _ _ _).trans y12) (fun hHeld => ?_)
                clear hK K
                try simp only [Act.put, List.setIfInBounds_toArray, List.set_cons_zero, List.set_cons_succ]
                refine wpAnyH_done (by kernel_rfl) ?_ _
                go_wp2
                clear z12 f12 y12
                generalize hW : w12.setCell ⟨g3, y, none⟩ (.slice A9 n9 c9) = w13
                have HS13 : Hid (Kd.S kLI 30 w13 w.heap.size (fun _ => True) (.slice (some ⟨g3, 0, none⟩) B.length c3) (prow (Pr.set y (Pr.getD y [] ++ [i])))) := Lib.hid (by rw [← hW, ← prow_set]; exact HT.out.1)
                have HB13 : Hid (Below w.heap.size w w13) := Lib.hid (by rw [← hW]; exact below_set HB12.out HG3.out)
                clear hW
                go_roundw
                case rel => exact ⟨k + 1, Pr.set y (Pr.getD y [] ++ [i]), by go_num, by omega, Lib.hid (HI.out.add HAt.out HTo.out), HS13, HB13⟩
                case measure => simp [intOf]; omega
        · obtain rfl : k = (eds B i).length := by omega
          go_wp2
          go_roundw
          case rel => exact ⟨i + 1, Pr, by go_num, by omega, Lib.hid (HI.out.up (by rw [E_len]) (by rw [E_len]; exact HSz.out)), HS, HB⟩
          case measure => simp [intOf]; omega
    · obtain rfl : i = B.length := by omega
      go_wp2
      go_ret
      exact ⟨_, Pr, rfl, HI.out.done hn, HS.out, HB.out⟩
