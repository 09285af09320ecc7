/- The contract of (*impl.Fn).order. -/
import Derived.Test.YtlamooicofkjlaaDmdFnExactDoms
import Derived.Test.YtlamooicofkjlaaRevPFnExactDoms
namespace Go.Proofs.Ytlamooicofkjlaa.DmFnExactDoms
open Go.RowKit Go.Proofs.Ytlamooicofkjlaa.QFnExactDoms Go.Proofs.YtlamooicofkjlaaW.PrintWords Go.Proofs.YtlamooicofkjlaaW.PrintLast Go.Proofs.Ytlamooicofkjlaa.SrFnExactDoms Go.Proofs.Ytlamooicofkjlaa.DomP
open Go.Proofs.Ytlamooicofkjlaa.DfsP (DInv Ord Rc DInv.start DInv.none DInv.pop DInv.skip DInv.push DInv.done)
open Go.Proofs.Ytlamooicofkjlaa.BfsP (nodup_le)
set_option linter.unusedVariables false
set_option linter.unusedSimpArgs false

/-- An order of what is reached, as a list of own. -/
def Order (B : List S70) (w : World) (e : Ending) (w' : World) : Prop := ∃ v L, e = .returned v ∧ Ord (E B) B.length L ∧ Kd.R (Kd.int .i64) 3 w' w.heap.size (fun _ => True) v (ints L) ∧ Below w.heap.size w w'

theorem reverse_c (w0 : World) (v : Value) (l : List Nat) (w : World) (hl : l.length ≤ 1099511627776) (h : Kd.R (Kd.int .i64) 3 w w0.heap.size (fun _ => True) v (ints l)) (hb : Below w0.heap.size w0 w) : Calls Try.prog 50 #[v] w (fun e w' => e = .returned (.tuple #[]) ∧ Kd.R (Kd.int .i64) 3 w' w0.heap.size (fun _ => True) v (ints l.reverse) ∧ Below w0.heap.size w0 w') := by
  obtain ⟨r, hr, K, hK⟩ := Go.Proofs.Ytlamooicofkjlaa.RevFnExactDoms.rev_tells (ints l) (by unfold ints; rw [List.length_map]; exact hl)
  refine (slices_Reverse_int_int.calls K (fun _ => True) v (ints l) r w0 w hb h (hK K (Nat.le_refl _))).mono ?_
  rintro e w' ⟨rfl, h1, h2, _⟩
  subst hr
  have e : ints l.reverse = (ints l).reverse := by unfold ints; rw [List.map_reverse]
  rw [e]
  exact ⟨rfl, Kd.R_mono h1 (fun _ _ => trivial), h2⟩

set_option maxHeartbeats 8000000 in
set_option maxRecDepth 100000 in
theorem order_c (gb : Nat) (B : List S70) (w : World) (hM : MemB w gb B) (hE : EdgesIn B) : Calls Try.prog 39 #[.pointer (some ⟨gb, 0, none⟩)] w (Order B w) := by
  have HM := Lib.hid hM
  have HE := Lib.hid hE
  have hn : B.length ≤ 400 := hE.le
  have hu72 := Try.underlying72
  have hu70 := Try.underlying70
  have hu37 := Try.underlying37
  have hu96 := Try.underlying96
  obtain ⟨A, c, y4, hC⟩ := hM
  have HC := Lib.hid hC
  have Y4 := Lib.hid y4
  clear hE hC
  go_enter Try.func39, Try.ntmps39
  go_upto_region 3 with (first
    | ((with_reducible refine gate_dst (N := 14) rfl ?_); refine Kd.R_make Kd.bool _ 4 rfl (N := 14) rfl 73 _ _ rfl (B.length : Int) rfl rfl Try.underlying73 (.bool false) 1 info4 rfl (by decide) (by omega) false (ok := fun _ => True) (okp := fun _ => True) rfl (fun _ hk => hk) trivial (by omega) (by omega) (Below.refl _ _) (Nat.le_refl _) ?_; intro v3 w3 hs hb hg_ hnew_; clear hg_ hnew_; rw [Int.toNat_natCast] at hs; have HS := Lib.hid hs; have HB := Lib.hid hb; replace y4 := pw_cell_below hb y4; clear hs hb)
    | ((with_reducible refine gate_dst (N := 15) rfl ?_); refine Kd.R_lit (Kd.int .i64) _ 3 ?hg (N := 15) ?hd (xs := ([] : List Int)) (inner := []) (ok := fun _ => True) (okp := fun _ => True) ?hr ?hp (fun _ hk => hk) trivial (Below.refl _ _) (Nat.le_refl _) (by simp) ?_; (case hd => rfl); (case hg => rfl); (case hr => first | (go_simp; done) | (go_simp; rfl)); (case hp => exact (Reps.none _ _)); intro v4 w4 ho2 hb hg_ hnew_; clear hg_ hnew_; have HS2 := Lib.hid (Kd.R_below HS.out hb); have HO := Lib.hid (Kd.R_lower ho2 HB.out.size); have HB2 := Lib.hid (below_step HB.out hb HB.out.size); replace y4 := pw_cell_below hb y4; clear hb ho2 HB HS; have HB := HB2; have HS := HS2; clear HB2 HS2)
    | ((with_reducible refine gate_dst (N := 16) rfl ?_); refine Kd.R_lit k96 _ 96 ?hg (N := 16) ?hd (xs := ([] : List S96)) (inner := []) (ok := fun _ => True) (okp := fun _ => True) ?hr ?hp (fun _ hk => hk) trivial (Below.refl _ _) (Nat.le_refl _) (by simp) ?_; (case hd => rfl); (case hg => rfl); (case hr => first | (go_simp; done) | (go_simp; rfl)); (case hp => exact (Reps.none _ _)); intro v5 w5 ho2 hb hg_ hnew_; clear hg_ hnew_; have HS2 := Lib.hid (Kd.R_below HS.out hb); have HO2 := Lib.hid (Kd.R_below HO.out hb); have HK := Lib.hid (Kd.R_lower ho2 HB.out.size); have HB2 := Lib.hid (below_step HB.out hb HB.out.size); replace y4 := pw_cell_below hb y4; clear hb ho2 HB HS HO; have HB := HB2; have HS := HS2; have HO := HO2; clear HB2 HS2 HO2))
  by_cases h0 : 0 < B.length
  · have d1 : decide (0 < (B.length : Int)) = true := decide_eq_true (by omega)
    obtain ⟨g3, c3, e3, hg3, hl3, _⟩ := Kd.R_form HS.out (by rw [List.length_replicate]; exact h0)
    rw [List.length_replicate] at e3
    subst e3
    have p0 : (0 : Int) < (B.length : Int) := by omega
    have HG3 := Lib.hid hg3
    clear hg3 hl3
    go_upto_region 5 with (first
      | ((with_reducible refine gate_dst (N := 27) rfl ?_); refine Kd.R_append k96 (w0 := w) w.heap.size rfl (.tmp 24) (.tmp 26) 94 96 (.agg #[.int .i64 0, .int .i64 0]) 16 rfl Try.underlying94 info96 rfl (by decide) (by omega) v5 [] (enc (0, 0)) [.int .i64 0, .int .i64 0] (fun _ => True) (fun _ => False) rfl rfl (k96_mkM _ _ _ _) (fun _ hk => hk.elim) (fun _ _ => trivial) HK.out HB.out HB.out.size (by simp) ?_; intro v6 w6 ho hb hg hat; have HS6 := Lib.hid (Kd.R_over' HS.out (Kd.R_typed HK.out) (by decide) hg); have HO6 := Lib.hid (Kd.R_over' HO.out (Kd.R_typed HK.out) (by decide) hg); have HB6 := Lib.hid hb; have HK6 := Lib.hid ho; clear ho hb hg hat HK HS HO HB; replace y4 := pw_cell_below HB6.out Y4.out; have xa : w6.cell? ⟨g3, 0, none⟩ = some (.bool (rdOf false (List.replicate B.length false) 0)) := (Kd.R_celln false HS6.out 0 (by omega) p0).1; have xb : w6.frozen? ⟨g3, 0, none⟩ = false := (Kd.R_celln false HS6.out 0 (by omega) p0).2))
    clear xa xb y4 d1
    have HI : Hid (OInv gb B w (w6.setCell ⟨g3, 0, none⟩ (.bool true)) (.slice (some ⟨g3, 0, none⟩) B.length c3) v4 v6 ((List.replicate B.length false).set 0 true) [(0, 0)] []) := Lib.hid (by
      have hp := Kd.R_putg HS6.out (0 : Int) true
      have hz : (0 : Int).toNat = 0 := rfl
      rw [hz] at hp
      have hb := below_set HB6.out HG3.out (j := 0) (v := Value.bool true)
      refine ⟨by simp, ?_, hp.1, Kd.R_over' HO6.out (Kd.R_typed HS6.out) (by decide) hp.2, Kd.R_over' HK6.out (Kd.R_typed HS6.out) (by decide) hp.2, HM.out, hb⟩
      rw [sn_start _ h0]
      exact DInv.start h0)
    clear HS6 HO6 HK6 HB6 HG3
    generalize w6.setCell ⟨g3, 0, none⟩ (.bool true) = w7 at HI ⊢
    go_loopg [4, 5] (left B ((List.replicate B.length false).set 0 true) [(0, 0)]) (fun kq v4 v5 wr => ∃ s st fin, Hid (left B s st = kq) ∧ Hid (OInv gb B w wr (.slice (some ⟨g3, 0, none⟩) B.length c3) v4 v5 s st fin))
    case atStart => exact ⟨_, _, _, Lib.hid rfl, HI⟩
    case round =>
      clear HI
      obtain ⟨s, st, fin, HQ, HI⟩ := hrel
      rcases st with _ | ⟨⟨t, k⟩, r⟩
      · obtain ⟨A5, c5, e5⟩ := Kd.R_slice HI.out.rk
        have e5 : _ = Value.slice A5 0 c5 := e5
        subst e5
        have HFew := Lib.hid HI.out.few
        go_wp2_with (first | (go_at_call 50; refine (reverse_c w _ fin _ (by have := HFew.out; have : ([] : List (Nat × Nat)).length = 0 := rfl; omega) HI.out.ro HI.out.hb).mono ?_; rintro e w9 ⟨rfl, hr, hb⟩; have HR := Lib.hid hr; have HB := Lib.hid hb; clear hr hb))
        go_ret
        exact ⟨_, _, rfl, HI.out.I.done, HR.out, HB.out⟩
      · have hfew := HI.out.few
        rw [List.length_cons] at hfew
        obtain ⟨ht, hk⟩ := HI.out.at_top
        obtain ⟨g5, c5, e5, hg5, hl5, _⟩ := Kd.R_form HI.out.rk (by rw [rows_len]; simp)
        rw [rows_len, List.length_cons] at e5
        subst e5
        obtain ⟨m, hm⟩ : ∃ m, m = r.length := ⟨_, rfl⟩
        rw [← hm] at hfew ⊢ HI
        have HMl := Lib.hid hm
        have HG5 := Lib.hid hg5
        clear hg5 hl5 hm
        have HFew := Lib.hid hfew
        obtain ⟨x0, x1⟩ := top_cells HI.out.rk HMl.out
        obtain ⟨ad, A0, c0, A1, c1, A3, c13, A4, c4, e1, _, _, _, _, x4, _, _, _, _, _, _, _, g4⟩ := at_T70 (Kd.C_below HC.out HI.out.hb) (t : Int) (by omega) (by omega)
        subst e1
        rw [Int.toNat_natCast] at x4
        rw [rd70] at x4 g4
        have HG4 := Lib.hid g4
        clear g4
        have y4 := pw_cell_below HI.out.hb Y4.out
        have t0 : (0 : Int) ≤ (t : Int) := by omega
        have t1 : (t : Int) < (B.length : Int) := by omega
        go_upto_region 7 with fail
        go_quiet (fail)
        have hbq : Below wr.heap.size wr (wr.drewN nq) := pw_below_drewN (Below.refl _ _) nq
        have HI8 := Lib.hid (HI.out.keep hbq)
        replace x0 := pw_cell_below hbq x0
        replace x1 := pw_cell_below hbq x1
        have HG8 := Lib.hid (Kd.C_below HG4.out hbq)
        clear HI HG4 x4 y4 hbq
        generalize wr.drewN nq = w8 at HI8 HG8 x0 x1 ⊢
        by_cases hke : k = (eds B t).length
        · have HKe := Lib.hid hke
          have d1 : ((k : Int) == ((eds B t).length : Int)) = true := beq_iff_eq.2 (by omega)
          clear hke
          go_upto_region 9 with fail
          have HI9 := Lib.hid (HI8.out.keep (below_drew (Below.refl _ _)))
          have hcap := (Kd.R_reads' HI9.out.rk).2.1
          have q0 : (0 : Int) ≤ (m : Int) := by omega
          have q1 : (m : Int) ≤ (c5 : Int) := by omega
          have q2 : m ≤ c5 := by omega
          have q3 : ¬ c5 = 0 := by omega
          have q4 : IntKind.i64.wrap (m : Int) = (m : Int) := IntWalk.i64_in _ (by omega)
          refine wp_region_held_drew (S := fun w' => w'.cell? ⟨g5, m * 2, none⟩ = some (.int .i64 (t : Int))) (by kernel_rfl) x0 (fun hHeld => ?_)
          refine wpAnyH_take (i := 0) (v := ?_) rfl (by kernel_rfl) (by kernel_rfl) (by kernel_rfl) (fun _ _ _ h => h) (Or.inl ⟨by rfl, ?_⟩) (by assumption) ?_
          rotate_left
          · (intro w' hSw; (try dsimp only at hSw); first | (go_simp; done) | (go_simp; with_reducible rfl))
          try simp only [Act.put, List.setIfInBounds_toArray, List.set_cons_zero, List.set_cons_succ]
          refine wpAnyH_take (i := 1) (v := ?_) rfl (by kernel_rfl) (by kernel_rfl) (by kernel_rfl) (fun _ _ _ h => h) (Or.inl ⟨by rfl, ?_⟩) (by assumption) ?_
          rotate_left
          · (intro w' hSw; (try dsimp only at hSw); first | (go_simp; done) | (go_simp; with_reducible rfl))
          try simp only [Act.put, List.setIfInBounds_toArray, List.set_cons_zero, List.set_cons_succ]
          refine wpAnyH_take (i := 2) (v := ?_) rfl (by kernel_rfl) (by kernel_rfl) (by kernel_rfl) (fun _ _ _ h => h) (Or.inl ⟨by rfl, ?_⟩) (by assumption) ?_
          rotate_left
          · (intro w' hSw; (try dsimp only at hSw); first | (go_simp; done) | (go_simp; with_reducible rfl))
          try simp only [Act.put, List.setIfInBounds_toArray, List.set_cons_zero, List.set_cons_succ]
          refine wpAnyH_take (i := 3) (v := ?_) rfl (by kernel_rfl) (by kernel_rfl) (by kernel_rfl) (fun _ _ _ h => h) (Or.inl ⟨by rfl, ?_⟩) (by assumption) ?_
          rotate_left
          · (intro w' hSw; (try dsimp only at hSw); first | (go_simp; done) | (go_simp; with_reducible rfl))
          try simp only [Act.put, List.setIfInBounds_toArray, List.set_cons_zero, List.set_cons_succ]
          refine wpAnyH_take (i := 4) (v := ?_) rfl (by kernel_rfl) (by kernel_rfl) (by kernel_rfl) (fun _ _ _ h => h) (Or.inl ⟨by rfl, ?_⟩) (by assumption) ?_
          rotate_left
          · (intro w' hSw; (try dsimp only at hSw); first | (go_simp; done) | (go_simp; with_reducible rfl))
          try simp only [Act.put, List.setIfInBounds_toArray, List.set_cons_zero, List.set_cons_succ]
          refine wpAnyH_take (i := 7) (v := ?_) rfl (by kernel_rfl) (by kernel_rfl) (by kernel_rfl) (fun _ _ _ h => h) (Or.inl ⟨by rfl, ?_⟩) (by assumption) ?_
          rotate_left
          · (intro w' hSw; (try dsimp only at hSw); first | (go_simp; done) | (go_simp; with_reducible rfl))
          try simp only [Act.put, List.setIfInBounds_toArray, List.set_cons_zero, List.set_cons_succ]
          refine wpAnyH_take (i := 8) (v := ?_) rfl (by kernel_rfl) (by kernel_rfl) (by kernel_rfl) (fun _ _ _ h => h) (Or.inl ⟨by rfl, ?_⟩) (by assumption) ?_
          rotate_left
          · (intro w' hSw; (try dsimp only at hSw); first | (go_simp; done) | (go_simp; with_reducible rfl))
          try simp only [Act.put, List.setIfInBounds_toArray, List.set_cons_zero, List.set_cons_succ]
          refine wpAnyH_take (i := 9) (v := ?_) rfl (by kernel_rfl) (by kernel_rfl) (by kernel_rfl) (fun _ _ _ h => h) (Or.inl ⟨by rfl, ?_⟩) (by assumption) ?_
          rotate_left
          · (intro w' hSw; (try dsimp only at hSw); first | (go_simp; done) | (go_simp; with_reducible rfl))
          try simp only [Act.put, List.setIfInBounds_toArray, List.set_cons_zero, List.set_cons_succ]
          refine wpAnyH_take (i := 10) (v := ?_) rfl (by kernel_rfl) (by kernel_rfl) (by kernel_rfl) (fun _ _ _ h => h) (Or.inl ⟨by rfl, ?_⟩) (by assumption) ?_
          rotate_left
          · (intro w' hSw; (try dsimp only at hSw); first | (go_simp; done) | (go_simp; with_reducible rfl))
          try simp only [Act.put, List.setIfInBounds_toArray, List.set_cons_zero, List.set_cons_succ]
          refine wpAnyH_take (i := 11) (v := ?_) rfl (by kernel_rfl) (by kernel_rfl) (by kernel_rfl) (fun _ _ _ h => h) (Or.inl ⟨by rfl, ?_⟩) (by assumption) ?_
          rotate_left
          · (intro w' hSw; (try dsimp only at hSw); first | (go_simp; done) | (go_simp; with_reducible rfl))
          try simp only [Act.put, List.setIfInBounds_toArray, List.set_cons_zero, List.set_cons_succ]
          refine wpAnyH_ready (rs := [5]) (by kernel_rfl) (by simp) ?_
          refine AllReadyH.cons rfl (fun K hK => ?_) AllReadyH.nil
          go_simp
          refine hK.out _ _ (by first | go_keep | exact x0) (fun hHeld => ?_)
          clear hK K
          try simp only [Act.put, List.setIfInBounds_toArray, List.set_cons_zero, List.set_cons_succ]
          refine wpAnyH_ready (rs := [6]) (by kernel_rfl) (by simp) ?_
          refine AllReadyH.cons rfl (fun K hK => ?_) AllReadyH.nil
          refine Kd.R_append_step (Kd.int .i64) (w0 := w) w.heap.size (by rfl) (.tmp 55) (.tmp 60) 30 3 (.int .i64 0) 8 (by rfl) Try.underlying30 info3 rfl (by decide) (by omega) u4 (ints fin) (t : Int) [.int .i64 (t : Int)] (fun _ => True) (fun _ => False) (by rfl) (by rfl) rfl (fun _ hk => hk.elim) (fun _ _ => trivial) HI9.out.ro HI9.out.hb HI9.out.hb.size (by unfold ints; rw [List.length_map]; have := HFew.out; omega) ?_
          intro v9 w9 ho hb hg hat
          have HP := Lib.hid (HI9.out.popped HMl.out HKe.out ho hb hg)
          clear ho hb hg hat
          refine hK.out _ _ HP.out.2 (fun hHeld => ?_)
          clear hK K
          try simp only [Act.put, List.setIfInBounds_toArray, List.set_cons_zero, List.set_cons_succ]
          refine wpAnyH_ready (rs := [12]) (by kernel_rfl) (by simp) ?_
          refine AllReadyH.cons rfl (fun K hK => ?_) AllReadyH.nil
          go_simp
          refine hK.out _ _ HP.out.2 (fun hHeld => ?_)
          clear hK K
          try simp only [Act.put, List.setIfInBounds_toArray, List.set_cons_zero, List.set_cons_succ]
          refine wpAnyH_ready (rs := [13]) (by kernel_rfl) (by simp) ?_
          refine AllReadyH.cons rfl (fun K hK => ?_) AllReadyH.nil
          go_simp
          refine hK.out _ _ HP.out.2 (fun hHeld => ?_)
          clear hK K
          try simp only [Act.put, List.setIfInBounds_toArray, List.set_cons_zero, List.set_cons_succ]
          refine wpAnyH_done (by kernel_rfl) ?_ _
          go_wp2
          go_roundg (left B s r)
          case measure => have := left_pop B s t k r; have h := HQ.out; omega
          case rel => exact ⟨s, r, fin ++ [t], Lib.hid rfl, Lib.hid HP.out.1⟩
        · have hkl : k < (eds B t).length := by omega
          have HKl := Lib.hid hkl
          have d1 : ((k : Int) == ((eds B t).length : Int)) = false := beq_eq_false_iff_ne.2 (by omega)
          obtain ⟨ad2, A5, c6, e2, x5, _, _, _⟩ := at_T72 HG8.out (k : Int) (by omega) (by omega)
          subst e2
          obtain ⟨y, hto2, hat, htl⟩ := edge_at HE.out t k hkl
          rw [Int.toNat_natCast, hto2] at x5
          have k0 : (0 : Int) ≤ (k : Int) := by omega
          have k1 : (k : Int) < ((eds B t).length : Int) := by omega
          have n0 : (0 : Int) ≤ (y : Int) := by omega
          have n1 : (y : Int) < (B.length : Int) := by omega
          have HAt := Lib.hid hat
          have HTo := Lib.hid htl
          have q4 : IntKind.i64.wrap ((k : Int) + 1) = ((k + 1 : Nat) : Int) := by rw [IntWalk.i64_in _ (by have := HE.out.len t; omega)]; omega
          clear hke hkl hat hto2 htl
          have hc3 := Kd.R_celln false HI8.out.rs (y : Int) n0 n1
          rw [Int.toNat_natCast, sn_at] at hc3
          have f1 := top_free HI8.out.rk HMl.out
          obtain ⟨z3, f3⟩ := hc3
          cases hsn : sn s y
          · have HSn := Lib.hid hsn
            rw [hsn] at z3
            clear hsn
            go_upto_region 12 with fail
            clear z3 f3 x0 x1 x5 f1
            generalize hW : w8.setCell ⟨g5, m * 2 + 1, none⟩ (.int .i64 ((k : Int) + 1)) = w9
            have HJ := Lib.hid (HI8.out.stepped HMl.out hW)
            clear hW
            have hc3 := Kd.R_celln false HJ.out.1 (y : Int) n0 n1
            rw [Int.toNat_natCast, sn_at, HSn.out] at hc3
            obtain ⟨z3, f3⟩ := hc3
            go_upto_region 14 with fail
            clear z3 f3
            generalize hW : w9.setCell ⟨g3, y, none⟩ (.bool true) = w10
            have HL := Lib.hid (seen_set HJ.out.1 HJ.out.2.1 HJ.out.2.2.1 HJ.out.2.2.2 hW)
            clear hW
            have HLn : Hid ((rows ((t, k + 1) :: r)).length + 1 ≤ 402) := Lib.hid (by rw [rows_len, List.length_cons]; have h1 := HFew.out; have h2 := HMl.out; omega)
            have HLs := Lib.hid HI8.out.len
            have HD := Lib.hid HI8.out.I
            clear HJ HI8
            go_wp2_with ((with_reducible refine gate_dst (N := 94) rfl ?_); refine Kd.R_append k96 (w0 := w) w.heap.size rfl (.tmp 90) (.tmp 93) 94 96 (.agg #[.int .i64 0, .int .i64 0]) 16 rfl Try.underlying94 info96 rfl (by decide) (by omega) (.slice (some ⟨g5, 0, none⟩) (m + 1) c5) (rows ((t, k + 1) :: r)) (enc (y, 0)) [.int .i64 (y : Int), .int .i64 0] (fun _ => True) (fun _ => False) rfl rfl (k96_mkM _ _ _ (enc (y, 0))) (fun _ hk => hk.elim) (fun _ _ => trivial) HL.out.2.2.1 HL.out.2.2.2 HL.out.2.2.2.size (by have := HLn.out; omega) ?_; intro v11 w11 ho hb hg hat; have HI11 : Hid (OInv gb B w w11 (.slice (some ⟨g3, 0, none⟩) B.length c3) u4 v11 (s.set y true) ((y, 0) :: (t, k + 1) :: r) fin) := Lib.hid ⟨by rw [List.length_set]; exact HLs.out, by rw [sn_set s y (by have := HLs.out; have := HTo.out; omega)]; exact HD.out.push HAt.out HSn.out HTo.out, Kd.R_over' HL.out.1 (Kd.R_typed HL.out.2.2.1) (by decide) hg, Kd.R_over' HL.out.2.1 (Kd.R_typed HL.out.2.2.1) (by decide) hg, by rw [rows_cons]; exact ho, HM.out, hb⟩; clear ho hb hg hat HL)
            go_roundg (left B (s.set y true) ((y, 0) :: (t, k + 1) :: r))
            case measure => have := left_push B s t k y r HKl.out HSn.out HTo.out HLs.out; have h := HQ.out; omega
            case rel => exact ⟨s.set y true, (y, 0) :: (t, k + 1) :: r, fin, Lib.hid rfl, HI11⟩
          · have HSn := Lib.hid hsn
            rw [hsn] at z3
            clear hsn
            go_upto_region 12 with fail
            clear z3 f3 x0 x1 x5 f1
            generalize hW : w8.setCell ⟨g5, m * 2 + 1, none⟩ (.int .i64 ((k : Int) + 1)) = w9
            have HJ := Lib.hid (HI8.out.stepped HMl.out hW)
            clear hW
            have hc3 := Kd.R_celln false HJ.out.1 (y : Int) n0 n1
            rw [Int.toNat_natCast, sn_at, HSn.out] at hc3
            obtain ⟨z3, f3⟩ := hc3
            go_wp2
            go_roundg (left B s ((t, k + 1) :: r))
            case measure => have := left_skip B s t k r HKl.out; have h := HQ.out; omega
            case rel => exact ⟨s, (t, k + 1) :: r, fin, Lib.hid rfl, Lib.hid ⟨HI8.out.len, HI8.out.I.skip HAt.out HSn.out, HJ.out.1, HJ.out.2.1, HJ.out.2.2.1, HM.out, HJ.out.2.2.2⟩⟩
  · have hB0 : B.length = 0 := by omega
    have d1 : decide (0 < (B.length : Int)) = false := decide_eq_false (by omega)
    obtain ⟨A5, c5, e5⟩ := Kd.R_slice HK.out
    have e5 : v5 = Value.slice A5 0 c5 := e5
    subst e5
    go_upto_region 5 with fail
    go_loopg [4, 5] 0 (fun kq u4 u5 wr => u4 = v4 ∧ u5 = Value.slice A5 0 c5 ∧ wr = w5)
    case atStart => exact ⟨rfl, rfl, rfl⟩
    case round =>
      obtain ⟨rfl, rfl, rfl⟩ := hrel
      go_wp2_with (first | (go_at_call 50; refine (reverse_c w _ [] _ (by simp) HO.out HB.out).mono ?_; rintro e w9 ⟨rfl, hr, hb⟩; have HR := Lib.hid hr; have HB2 := Lib.hid hb; clear hr hb))
      go_ret
      refine ⟨_, [], rfl, ?_, HR.out, HB2.out⟩
      rw [hB0]
      exact (DInv.none (E := E B)).done
