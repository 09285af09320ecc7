/- The contract of spec.ImageRead. -/
import Derived.Test.YtkfeoilnhpfknaaRdmFnExactImageRead
import Derived.Test.YtkfeoilnhpfknaaImgSFnExactImageRead
namespace Go.Proofs.Ytkfeoilnhpfknaa.ImFnExactImageRead
open Go.RowKit Go.Proofs.Ytkfeoilnhpfknaa.QFnExactImageRead Go.Proofs.YtkfeoilnhpfknaaW.PrintWords Go.Proofs.YtkfeoilnhpfknaaW.PrintLast
set_option linter.unusedSimpArgs false
set_option linter.unusedVariables false

set_option maxHeartbeats 40000000 in
set_option maxRecDepth 100000 in
theorem sread_c (A : Option Addr) (c : Nat) (bs : List Int) (w : World) (hC : Kd.C (Kd.int .u8) w A bs.length bs) (hc : bs.length ≤ c) (hl : bs.length ≤ 1099511627) (hb : Byt bs) :
    Calls Try.prog 17 #[.slice A bs.length c] w (SReadI bs w) := by
  have HC := Lib.hid hC
  have HB := Lib.hid hb
  clear hC hb
  by_cases hbig : (200000 : Int) < (bs.length : Int)
  · have d1 : decide ((200000 : Int) < (bs.length : Int)) = true := decide_eq_true hbig
    have hno : ¬ SGoes bs := fun h => h.1 (by omega)
    go_enter Try.func17, Try.ntmps17
    go_upto_region 1 with ((with_reducible refine gate_dst (N := 2) rfl ?_); refine box_event ?hg (N := 2) ?hd (cs := #[.slice none 0 0, .slice none 0 0, .int .i64 0]) (t := 30) ?hr ?_; (case hd => rfl); (case hg => rfl); (case hr => first | (go_simp; done) | (go_simp; rfl)); intro g2 hg w2 hbox hb; have HG2 := Lib.hid hg; have HX2 := Lib.hid hbox; have HB2 := Lib.hid hb; clear hbox hb hg)
    have z0 := (blk_cell HX2.out 0).trans rfl
    have z1 := (blk_cell HX2.out 1).trans rfl
    have z2 := (blk_cell HX2.out 2).trans rfl
    have f0 := blk_frozen HX2.out 0
    have f1 := blk_frozen HX2.out 1
    have f2 := blk_frozen HX2.out 2
    go_wp2
    generalize hW : World.setCell _ _ _ = w3
    obtain ⟨hb, hX⟩ := three_set HB2.out (Nat.le_of_eq HG2.out.symm) HX2.out (.slice none 0 0) (.slice none 0 0) (.int .i64 0)
    rw [hW] at hb hX
    (try simp only [Exit.inBlock, Exit.then])
    refine bodyPost_ret (results_cell_row_tmp rfl _ _ g2 30 _ (0, 0) _ rfl hX Try.underlying30 rfl (by kernel_rfl)) rfl ?_
    exact SReadI.no hb hno
  have d1 : decide ((200000 : Int) < (bs.length : Int)) = false := decide_eq_false hbig
  by_cases hsm : (bs.length : Int) < 2
  · have d2 : decide ((bs.length : Int) < 2) = true := decide_eq_true hsm
    have hno : ¬ SGoes bs := fun h => by have := h.2.1; omega
    go_enter Try.func17, Try.ntmps17
    go_upto_region 1 with ((with_reducible refine gate_dst (N := 2) rfl ?_); refine box_event ?hg (N := 2) ?hd (cs := #[.slice none 0 0, .slice none 0 0, .int .i64 0]) (t := 30) ?hr ?_; (case hd => rfl); (case hg => rfl); (case hr => first | (go_simp; done) | (go_simp; rfl)); intro g2 hg w2 hbox hb; have HG2 := Lib.hid hg; have HX2 := Lib.hid hbox; have HB2 := Lib.hid hb; clear hbox hb hg)
    have z0 := (blk_cell HX2.out 0).trans rfl
    have z1 := (blk_cell HX2.out 1).trans rfl
    have z2 := (blk_cell HX2.out 2).trans rfl
    have f0 := blk_frozen HX2.out 0
    have f1 := blk_frozen HX2.out 1
    have f2 := blk_frozen HX2.out 2
    go_wp2
    generalize hW : World.setCell _ _ _ = w3
    obtain ⟨hb, hX⟩ := three_set HB2.out (Nat.le_of_eq HG2.out.symm) HX2.out (.slice none 0 0) (.slice none 0 0) (.int .i64 0)
    rw [hW] at hb hX
    (try simp only [Exit.inBlock, Exit.then])
    refine bodyPost_ret (results_cell_row_tmp rfl _ _ g2 30 _ (0, 0) _ rfl hX Try.underlying30 rfl (by kernel_rfl)) rfl ?_
    exact SReadI.no hb hno
  have d2 : decide ((bs.length : Int) < 2) = false := decide_eq_false hsm
  obtain ⟨ad, eA, x0⟩ := Kd.at_int HC.out 0 (by omega) (by omega)
  subst eA
  obtain ⟨ad', eA, x1⟩ := Kd.at_int HC.out 1 (by omega) (by omega)
  obtain rfl : ad = ad' := Option.some.inj eA
  rw [show (0 : Int).toNat = 0 from rfl, show ad.add 0 = ad from by unfold Addr.add; rfl] at x0
  replace x1 : w.cell? ⟨ad.block, ad.off + 1, none⟩ = some (.int .u8 (rd bs 1)) := x1
  obtain ⟨q0, hq0⟩ : ∃ q, q = rd bs 0 := ⟨_, rfl⟩
  obtain ⟨q1, hq1⟩ : ∃ q, q = rd bs 1 := ⟨_, rfl⟩
  rw [← hq0] at x0
  rw [← hq1] at x1
  have HQ0 := Lib.hid hq0
  have HQ1 := Lib.hid hq1
  have HX0 := Lib.hid x0
  have HX1 := Lib.hid x1
  clear hq0 hq1 x0 x1 eA
  have i0 : 0 < bs.length := by omega
  have i1 : 1 < bs.length := by omega
  have j0 : (0 : Int) < (bs.length : Int) := by omega
  have j1 : (1 : Int) < (bs.length : Int) := by omega
  by_cases hq : q0 = 71 ∧ q1 = 73
  · obtain ⟨rfl, rfl⟩ := hq
    have HH : Hid (2 ≤ bs.length ∧ ¬ 200000 < bs.length) := Lib.hid ⟨by omega, by omega⟩
    go_enter Try.func17, Try.ntmps17
    go_upto_region 3 with ((with_reducible refine gate_dst (N := 2) rfl ?_); refine box_event ?hg (N := 2) ?hd (cs := #[.slice none 0 0, .slice none 0 0, .int .i64 0]) (t := 30) ?hr ?_; (case hd => rfl); (case hg => rfl); (case hr => first | (go_simp; done) | (go_simp; rfl)); intro g2 hg w2 hbox hb; have HG2 := Lib.hid hg; have HX2 := Lib.hid hbox; have HB2 := Lib.hid hb; have x0 := pw_cell_below hb HX0.out; have x1 := pw_cell_below hb HX1.out; clear hbox hb hg)
    clear x0 x1
    go_upto_region 4 with ((with_reducible refine gate_dst (N := 44) rfl ?_); refine box_event ?hg (N := 44) ?hd (cs := #[.slice (some ad) bs.length c, .int .i64 2]) (t := 65) ?hr ?_; (case hd => rfl); (case hg => rfl); (case hr => first | (go_simp; done) | (go_simp; rfl)); intro g hg w4 hbox hb; have HG := Lib.hid hg; have HX4 := Lib.hid hbox; have HB4 := Lib.hid hb; clear hbox hb hg)
    have HS4 : Hid (Spc w w4 g bs (st0 bs)) := Lib.hid (by
      have e2 : atOf bs (st0 bs) = 2 := by
        show (bs.length : Int) - ((bs.drop 2).length : Int) = 2
        rw [List.length_drop]
        have := HH.out.1
        omega
      exact ⟨below_step HB2.out HB4.out, ⟨some ad, c, by rw [e2]; exact HX4.out, by rw [HG.out]; exact HB2.out.size, HC.out, hc⟩, fun _ => ⟨bs.take 2, (List.take_append_drop 2 bs).symm⟩⟩)
    have HX24 := Lib.hid (blk_below HX2.out HB4.out)
    have Hg2 : Hid (w.heap.size ≤ g2) := Lib.hid (Nat.le_of_eq HG2.out.symm)
    clear HX4 HB4 HX2 HB2 HG2 HX0 HX1 d1 d2 i0 i1 j0 j1
    go_upto_region 8 with (first
      | ((with_reducible refine gate_dst (N := 5) rfl ?_); refine box_event ?hg (N := 5) ?hd (cs := #[.slice none 0 0, .slice none 0 0, .int .i64 0]) (t := 30) ?hr ?_; (case hd => rfl); (case hg => rfl); (case hr => first | (go_simp; done) | (go_simp; rfl)); intro g5 hg w5 hbox hb; have HG5 := Lib.hid hg; have HX5 := Lib.hid hbox; have HX25 := Lib.hid (blk_below HX24.out hb); have HS5 := Lib.hid (HS4.out.below hb); clear hbox hb hg)
      | (go_at_call 36; refine (num_c w g bs (srNum 8 (srNum 6 (st0 bs))) 8 w7 HS7.out HB.out hl).mono ?_; rintro e w8 ⟨rfl, hs, hk⟩; have HS8 := Lib.hid hs; have HK8 := Lib.hid (HK7.out.trans hk); have hn58 := HS5.out.ne HX5.out (by decide); have HX58 := Lib.hid ((HK8.out.2 g5 (blk_lt HX5.out) hn58).trans HX5.out); have z2 := (blk_cell HX58.out 2).trans rfl; have f2 := blk_frozen HX58.out 2; clear hs hk)
      | (go_at_call 36; refine (num_c w g bs (srNum 6 (st0 bs)) 8 w6 HS6.out HB.out hl).mono ?_; rintro e w7 ⟨rfl, hs, hk⟩; have HS7 := Lib.hid hs; have HK7 := Lib.hid (HK6.out.trans hk); clear hs hk)
      | (go_at_call 36; refine (num_c w g bs (st0 bs) 6 w5 HS5.out HB.out hl).mono ?_; rintro e w6 ⟨rfl, hs, hk⟩; have HS6 := Lib.hid hs; have HK6 := Lib.hid hk; clear hs hk))
    obtain ⟨ns, hns⟩ : ∃ x, x = svNum 6 (st0 bs) := ⟨_, rfl⟩
    obtain ⟨nc, hnc⟩ : ∃ x, x = svNum 8 (srNum 6 (st0 bs)) := ⟨_, rfl⟩
    obtain ⟨mn, hmn⟩ : ∃ x, x = svNum 8 (srNum 8 (srNum 6 (st0 bs))) := ⟨_, rfl⟩
    have rs := two_lo HB.out 6 (by decide) HS4.out
    have rc := two_lo HB.out 8 (by decide) HS6.out
    rw [← hns] at rs
    rw [← hnc] at rc
    rw [← hns, ← hnc, ← hmn]
    obtain ⟨rs0, rs1⟩ := rs
    obtain ⟨rc0, rc1⟩ := rc
    have HNs := Lib.hid hns
    have HNc := Lib.hid hnc
    have HMn := Lib.hid hmn
    clear hns hnc hmn z2 f2
    have HG5' : Hid (w.heap.size ≤ g5 ∧ g2 ≠ g5) := Lib.hid ⟨by rw [HG5.out]; exact HS4.out.1.size, by rw [HG5.out]; exact Nat.ne_of_lt (blk_lt HX24.out)⟩
    generalize hW : World.setCell _ _ _ = w9
    have HJ : Hid (JSt w g g2 g5 bs mn w9 (t3 (st0 bs)) (.slice none 0 0) (.slice none 0 0) [] []) := Lib.hid (by
      rw [← hW]
      exact ⟨HS8.out.new HG5'.out.1 hn58, ((Below.heap_setCell w8 ⟨g5, 2, none⟩ _ g2 HG5'.out.2).trans (HK8.out.2 g2 (blk_lt HX25.out) (HS5.out.ne HX25.out (by decide)))).trans HX25.out, by simpa using blk_set HX58.out 2 (.int .i64 mn), Kd.R_nil _ _ _ _ _, Kd.R_nil _ _ _ _ _⟩)
    clear hW HS4 HX24 HG5 HX5 HX25 HS5 HS6 HK6 HS7 HK7 HS8 HK8 HX58 hn58 HG
    go_upto_block 0 with (fail)
    go_cut [] from 21 (fun W => ∃ v0 l0, Hid ((tS (st0 bs)).2 = false → l0 = tStructs (st0 bs)) ∧ Hid (JSt w g g2 g5 bs mn W (tS (st0 bs)) v0 (.slice none 0 0) l0 []))
    case first => as_aux_lemma =>
      go_wp2
      go_loopw [8] (fun v8 wr => ∃ (i : Nat) (l0 : List (List Bool)) (st : RSt) (v0 : Value), v8 = .int .i64 i ∧ Hid (SMan svStruct srStruct ns.toNat (t3 (st0 bs)) i l0 st) ∧ Hid (JSt w g g2 g5 bs mn wr st v0 (.slice none 0 0) l0 [])) (fun v8 _ => (ns - intOf v8).toNat)
      case atStart => exact ⟨0, [], _, _, rfl, Lib.hid (SMan.start _ _ _ _), HJ⟩
      case round =>
        clear HJ
        obtain ⟨i, l0, st, v0, rfl, HM, HJ⟩ := hrel
        obtain ⟨z1, f1⟩ := HJ.out.1.cell
        obtain ⟨p, hp⟩ : ∃ p, p = atOf bs st := ⟨_, rfl⟩
        rw [← hp] at z1
        have HP := Lib.hid hp
        clear hp
        by_cases hgo : (i : Int) < ns ∧ st.2 = false
        · obtain ⟨hlt, hbd⟩ := hgo
          have d2 : decide ((i : Int) < ns) = true := decide_eq_true hlt
          have d3 : decide (0 ≤ p) = true := by rw [HP.out]; exact atOf_good HJ.out.1 hbd
          have HBd := Lib.hid hbd
          clear hbd
          have HRv := Lib.hid (show g < wr.heap.size from HJ.out.1.gt)
          have HRy := Lib.hid (show w.heap.size ≤ wr.heap.size from HJ.out.1.1.size)
          go_upto_region 12 with (go_at_call 36; refine (num_c w g bs st 5 wr HJ.out.1 HB.out hl).mono ?_; rintro e w10 ⟨rfl, hs, hk⟩; have HS10 := Lib.hid hs; have HK10 := Lib.hid hk; clear hs hk)
          have rn := two_lo HB.out 5 (by decide) HJ.out.1
          obtain ⟨n, hn⟩ : ∃ n, n = svNum 5 st := ⟨_, rfl⟩
          rw [← hn] at rn ⊢
          obtain ⟨rn0, rn1⟩ := rn
          have HST : Hid (svStruct st = vMany svB srB n.toNat (srNum 5 st) ∧ srStruct st = rMany srB n.toNat (srNum 5 st)) := Lib.hid (by rw [hn]; exact ⟨rfl, rfl⟩)
          clear hn z1 f1 d2 d3
          obtain ⟨wo, hwo⟩ : ∃ wo, wo = wr := ⟨_, rfl⟩
          rw [← hwo] at HK10 HRv HRy HJ
          go_upto_block 2 with (fail)
          go_cut [10] (fun v10 W => ∃ ys, Hid ((srStruct st).2 = false → ys = svStruct st) ∧ Hid (Kd.R Kd.bool 4 W wo.heap.size (fun k => k ≠ g) v10 ys) ∧ Hid (Spc w W g bs (srStruct st)) ∧ Hid (KeepR g wo W))
          case first =>
            go_wp2
            go_loopw [10, 11] (fun v10 v11 wr => ∃ (j : Nat) (ys : List Bool) (s2 : RSt), v11 = .int .i64 j ∧ Hid (SMan svB srB n.toNat (srNum 5 st) j ys s2) ∧ Hid (Kd.R Kd.bool 4 wr wo.heap.size (fun k => k ≠ g) v10 ys) ∧ Hid (Spc w wr g bs s2) ∧ Hid (KeepR g wo wr)) (fun _ v11 _ => (n - intOf v11).toNat)
            case atStart => exact ⟨0, [], srNum 5 st, rfl, Lib.hid (SMan.start _ _ _ _), Lib.hid (Kd.R_nil _ _ _ _ _), HS10, HK10⟩
            case round =>
              clear HS10 HK10
              obtain ⟨j, ys, s2, rfl, HM2, HO, HS, HK⟩ := hrel
              obtain ⟨z1, f1⟩ := HS.out.cell
              obtain ⟨p2, hp⟩ : ∃ p, p = atOf bs s2 := ⟨_, rfl⟩
              rw [← hp] at z1
              have HP2 := Lib.hid hp
              clear hp
              by_cases hgo2 : (j : Int) < n ∧ s2.2 = false
              · obtain ⟨hlt2, hbd⟩ := hgo2
                have d2 : decide ((j : Int) < n) = true := decide_eq_true hlt2
                have d3 : decide (0 ≤ p2) = true := by rw [HP2.out]; exact atOf_good HS.out hbd
                have HBd2 := Lib.hid hbd
                have hle := HS.out.2.2.le hbd
                have hpe : p2 = (bs.length : Int) - s2.1.length := by rw [HP2.out]; unfold atOf; rw [if_neg (by rw [hbd]; decide)]
                have p0 : 0 ≤ p2 := by omega
                have p1 : p2 ≤ 1099511627 := by omega
                by_cases hend : s2.1.length < 1
                · have d4 : decide ((bs.length : Int) ≤ p2) = true := decide_eq_true (by omega)
                  have hr : srB s2 = ([], true) := by unfold srB; rw [if_pos (.inr (.inl hend))]
                  have HE := Lib.hid ((HM2.out.brk hbd (by omega) (by rw [hr])).symm.trans hr)
                  clear hbd hpe hend hr
                  go_wp2
                  go_meet
                  case rel => exact ⟨ys, Lib.hid (fun h => by rw [HST.out.2, HE.out] at h; cases h), Lib.hid (Kd.R_far HO.out (p := ⟨g, 1, none⟩) (fun k hk => hk) _), Lib.hid (by rw [HST.out.2, HE.out]; exact HS.out.bad), Lib.hid HK.out.self⟩
                · have hr0 := HS.out.2.2.rd hbd 0
                  have hby := (HB.out.suf HS.out.2.2 hbd).rd 0
                  obtain ⟨ad', eA, x0⟩ := Kd.at_int HC.out p2 p0 (by omega)
                  obtain rfl : ad = ad' := Option.some.inj eA
                  replace x0 := pw_cell_below HS.out.1 x0
                  rw [show p2 = (bs.length : Int) - s2.1.length + ((0 : Nat) : Int) from by omega, hr0, show (bs.length : Int) - s2.1.length + ((0 : Nat) : Int) = p2 from by omega] at x0
                  clear eA hr0
                  obtain ⟨q, hq⟩ : ∃ q, q = rd s2.1 ((0 : Nat) : Int) := ⟨_, rfl⟩
                  rw [← hq] at x0
                  replace hq : q = rd s2.1 0 := hq
                  rw [← hq] at hby
                  obtain ⟨hq0, hq1⟩ := hby
                  have p3 : p2 < bs.length := by omega
                  have d4 : decide ((bs.length : Int) ≤ p2) = false := decide_eq_false (by omega)
                  by_cases hbig2 : 1 < q
                  · have d5 : decide ((1 : Int) < q) = true := decide_eq_true hbig2
                    have hr : srB s2 = ([], true) := by unfold srB; rw [if_pos (.inr (.inr (by rw [← hq]; exact hbig2)))]
                    have HE := Lib.hid ((HM2.out.brk hbd (by omega) (by rw [hr])).symm.trans hr)
                    clear hbd hpe hend hr hq hbig2
                    go_wp2
                    go_meet
                    case rel => exact ⟨ys, Lib.hid (fun h => by rw [HST.out.2, HE.out] at h; cases h), Lib.hid (Kd.R_far HO.out (p := ⟨g, 1, none⟩) (fun k hk => hk) _), Lib.hid (by rw [HST.out.2, HE.out]; exact HS.out.bad), Lib.hid HK.out.self⟩
                  · have d5 : decide ((1 : Int) < q) = false := decide_eq_false hbig2
                    have hn2 : ¬ (s2.2 = true ∨ s2.1.length < 1 ∨ 1 < rd s2.1 0) := by
                      rw [hbd, ← hq]
                      rintro (h | h | h)
                      · cases h
                      · exact hend h
                      · exact hbig2 h
                    have HR : Hid (srB s2 = (s2.1.drop 1, false)) := Lib.hid (by unfold srB; rw [if_neg hn2])
                    have HV : Hid ((q == 1) = svB s2) := Lib.hid (by unfold svB; rw [← hq])
                    have HA : Hid (atOf bs (s2.1.drop 1, false) = p2 + 1) := Lib.hid (by
                      show (bs.length : Int) - ((s2.1.drop 1).length : Int) = _
                      rw [List.length_drop]
                      omega)
                    have hys : ys.length ≤ 5 := by have := HM2.out.2.2.2; have := HM2.out.1; omega
                    have hj5 : j ≤ 5 := by have := HM2.out.1; omega
                    obtain ⟨A8, c8, e8⟩ := Kd.R_slice HO.out
                    subst e8
                    clear hbd hpe hend hq hbig2 hn2 f1
                    go_wp2_with ((with_reducible refine gate_builtin (b := .append) (xs := #[.tmp 98, .tmp 107]) rfl ?_); at_builtin; refine Kd.R_append Kd.bool (w0 := wr) wo.heap.size rfl (.tmp 98) (.tmp 107) 55 4 (.bool false) 1 rfl Try.underlying55 info4 rfl (by decide) (by omega) _ ys (q == 1) [.bool (q == 1)] (fun k => k ≠ g) (fun _ => False) rfl rfl (show Kd.M Kd.bool _ _ _ (q == 1) [.bool (q == 1)] from rfl) (fun _ h => h.elim) (fun k hk => by have := HRv.out; have := HK.out.1; omega) HO.out (Below.refl _ _) HK.out.1 (by omega) ?_; intro v60 w11 ho hb hg hat; have HO3 := Lib.hid ho; have HK3 := Lib.hid (HK.out.grow hb); have HS3 := Lib.hid (HS.out.grow hb HRy.out (hb.block g HRv.out)); clear ho hb hg hat z1; have z1 := HS3.out.cell.1; rw [← HP2.out] at z1; have f1 := HS3.out.cell.2)
                    refine ⟨⟨j + 1, ys ++ [q == 1], srB s2, by go_num, Lib.hid (HM2.out.next HBd2.out (by omega) (fun _ => HV.out)), Lib.hid (Kd.R_far HO3.out (p := ⟨g, 1, none⟩) (fun k hk => hk) _), Lib.hid ?_, Lib.hid HK3.out.self⟩, by simp [intOf]; omega⟩
                    rw [HR.out, ← HA.out]
                    exact HS3.out.go (HS.out.2.2.drop HBd2.out 1)
              · obtain ⟨he, hx⟩ := HM2.out.stop (fun h => hgo2 ⟨by omega, h.2⟩)
                have HE : Hid (s2 = srStruct st ∧ ((srStruct st).2 = false → ys = svStruct st)) := Lib.hid (by rw [HST.out.1, HST.out.2]; exact ⟨he, hx⟩)
                have hex : (decide ((j : Int) < n) = true ∧ decide (0 ≤ p2) = false) ∨ decide ((j : Int) < n) = false := by
                  by_cases hlt : (j : Int) < n
                  · by_cases hb : s2.2 = true
                    · exact .inl ⟨decide_eq_true hlt, by rw [HP2.out]; exact atOf_bad hb⟩
                    · exact absurd ⟨hlt, by simpa using hb⟩ hgo2
                  · exact .inr (decide_eq_false hlt)
                clear hgo2 he hx
                rw [HE.out.1] at HS
                rcases hex with ⟨d2, d3⟩ | d2
                all_goals
                  go_wp2
                  go_meet
                  case rel => exact ⟨ys, Lib.hid HE.out.2, HO, HS, HK⟩
          case rest =>
            obtain ⟨ys, HY, HO, HS, HK⟩ := hcut
            obtain ⟨A8, c8, e8⟩ := Kd.R_slice HO.out
            subst e8
            have HJ2 := Lib.hid (HJ.out.keep HK.out HS.out)
            obtain ⟨n0, A0, q0, e0⟩ : ∃ n A c, v0 = .slice A n c := by obtain ⟨A, c, h⟩ := Kd.R_slice HJ.out.2.2.2.1; exact ⟨_, A, c, h⟩
            subst e0
            have HQ2 := Lib.hid (R_fresh HO.out HRy.out)
            have y0 := (blk_cell HJ2.out.2.2.1 0).trans rfl
            have hsm0 : l0.length ≤ 6 := by have := HM.out.2.2.2; have := HM.out.1; omega
            have hi6 : i ≤ 6 := by have := HM.out.1; omega
            go_wp2_with ((with_reducible refine gate_builtin (b := .append) (xs := #[.tmp 117, .tmp 119]) rfl ?_); at_builtin; refine Kd.R_append (Kd.slice 4 Kd.bool) (w0 := wc) w.heap.size rfl (.tmp 117) (.tmp 119) 22 55 (.slice none 0 0) 24 rfl Try.underlying22 info55 rfl (by decide) (by omega) _ l0 ys [.slice A8 ys.length c8] (fun k => k ≠ g) (fun k => wo.heap.size ≤ k ∧ k ≠ g) rfl rfl ⟨_, rfl, HQ2.out⟩ (fun k h => ⟨h.2, fun e => by have := Kd.R_lt HJ.out.2.2.2.1 k e.symm; omega⟩) (fun k hk => by have := HRv.out; have := HK.out.1; omega) HJ2.out.2.2.2.1 (Below.refl _ _) (Nat.le_trans HRy.out HK.out.1) (by omega) ?_; intro v9 w12 ho hb hg hat; obtain ⟨n9, A9, q9, e9⟩ : ∃ n A c, v9 = .slice A n c := (by obtain ⟨A, c, h⟩ := Kd.R_slice ho; exact ⟨_, A, c, h⟩); subst e9; have HJ3 := Lib.hid (HJ2.out.structs HG5'.out.1 HG5'.out.2 hb hg ho); have hY := (hg.block g5 (blk_lt HJ2.out.2.2.1) (Kd.R_ne HJ2.out.2.2.2.1 HJ2.out.2.2.1 (by decide))).trans HJ2.out.2.2.1; have z16 := (blk_cell hY 0).trans rfl; have f16 := blk_frozen hY 0; clear ho hb hg hat hY)
            refine ⟨⟨i + 1, l0 ++ [ys], srStruct st, _, by go_num, Lib.hid (HM.out.next HBd.out (by omega) HY.out), HJ3⟩, by simp [intOf]; omega⟩
        · obtain ⟨he, hx⟩ := HM.out.stop (fun h => hgo ⟨by omega, h.2⟩)
          have HE : Hid (st = tS (st0 bs) ∧ ((tS (st0 bs)).2 = false → l0 = tStructs (st0 bs))) := Lib.hid (by
            rw [HNs.out] at he hx
            exact ⟨he, hx⟩)
          have hex : (decide ((i : Int) < ns) = true ∧ decide (0 ≤ p) = false) ∨ decide ((i : Int) < ns) = false := by
            by_cases hlt : (i : Int) < ns
            · by_cases hb : st.2 = true
              · exact .inl ⟨decide_eq_true hlt, by rw [HP.out]; exact atOf_bad hb⟩
              · exact absurd ⟨hlt, by simpa using hb⟩ hgo
            · exact .inr (decide_eq_false hlt)
          clear hgo he hx
          rw [HE.out.1] at HJ
          rcases hex with ⟨d2, d3⟩ | d2
          all_goals
            go_wp2
            go_meet
            case rel => exact ⟨v0, l0, Lib.hid HE.out.2, HJ⟩
    case rest =>
      obtain ⟨v0, l0, HL0, HJ⟩ := hcut
      obtain ⟨A0, q0, e0⟩ := Kd.R_slice HJ.out.2.2.2.1
      subst e0
      go_upto_block 4 with (fail)
      go_cut [] from 21 (fun W => ∃ v1 l1, Hid ((tC (st0 bs)).2 = false → l1 = tCodes (st0 bs)) ∧ Hid (JSt w g g2 g5 bs mn W (tC (st0 bs)) (.slice A0 l0.length q0) v1 l0 l1))
      case first =>
        go_wp2
        go_loopw [12] (fun v12 wr => ∃ (i : Nat) (l1 : List S53) (st : RSt) (v1 : Value), v12 = .int .i64 i ∧ Hid (SMan svCode srCode nc.toNat (tS (st0 bs)) i l1 st) ∧ Hid (JSt w g g2 g5 bs mn wr st (.slice A0 l0.length q0) v1 l0 l1)) (fun v12 _ => (nc - intOf v12).toNat)
        case atStart => exact ⟨0, [], _, _, rfl, Lib.hid (SMan.start _ _ _ _), HJ⟩
        case round =>
          clear HJ
          obtain ⟨i, l1, st, v1, rfl, HM, HJ⟩ := hrel
          obtain ⟨z1, f1⟩ := HJ.out.1.cell
          obtain ⟨p, hp⟩ : ∃ p, p = atOf bs st := ⟨_, rfl⟩
          rw [← hp] at z1
          have HP := Lib.hid hp
          clear hp
          by_cases hgo : (i : Int) < nc ∧ st.2 = false
          · obtain ⟨hlt, hbd⟩ := hgo
            have d2 : decide ((i : Int) < nc) = true := decide_eq_true hlt
            have d3 : decide (0 ≤ p) = true := by rw [HP.out]; exact atOf_good HJ.out.1 hbd
            have HBd := Lib.hid hbd
            clear hbd
            have HRv := Lib.hid (show g < wr.heap.size from HJ.out.1.gt)
            have HRy := Lib.hid (show w.heap.size ≤ wr.heap.size from HJ.out.1.1.size)
            have hi8 : i ≤ 8 := by have := HM.out.1; omega
            have hl8 : l1.length ≤ 8 := by have := HM.out.2.2.2; omega
            have hu53 := Try.underlying53
            go_upto_region 25 with (first
              | ((with_reducible refine gate_dst (N := 13) rfl ?_); refine box_event ?hg (N := 13) ?hd (cs := #[.int .i64 0, .int .i64 0, .slice none 0 0, .slice none 0 0]) (t := 53) ?hr ?_; (case hd => rfl); (case hg => rfl); (case hr => first | (go_simp; done) | (go_simp; rfl)); intro gx hg w23 hbox hb; have HGx := Lib.hid hg; have HX23 := Lib.hid hbox; have HB23 := Lib.hid hb; have z10 := (blk_cell hbox 0).trans rfl; have z11 := (blk_cell hbox 1).trans rfl; have z12 := (blk_cell hbox 2).trans rfl; have z13 := (blk_cell hbox 3).trans rfl; have f10 := blk_frozen hbox 0; have f11 := blk_frozen hbox 1; have f12 := blk_frozen hbox 2; have f13 := blk_frozen hbox 3; clear hbox hb hg)
              | (go_at_call 36; refine (num_c w g bs (srNum 1000 st) 4 w21 HS21.out HB.out hl).mono ?_; rintro e w22 ⟨rfl, hs, hk⟩; have HS22 := Lib.hid hs; have HK22 := Lib.hid (HK21.out.trans hk); clear hs hk)
              | (go_at_call 36; refine (num_c w g bs st 1000 wr HJ.out.1 HB.out hl).mono ?_; rintro e w21 ⟨rfl, hs, hk⟩; have HS21 := Lib.hid hs; have HK21 := Lib.hid hk; clear hs hk))
            obtain ⟨a0, ha0⟩ : ∃ x, x = svNum 1000 st := ⟨_, rfl⟩
            obtain ⟨a1, ha1⟩ : ∃ x, x = svNum 4 (srNum 1000 st) := ⟨_, rfl⟩
            rw [← ha0, ← ha1]
            have HA0 := Lib.hid ha0
            have HA1 := Lib.hid ha1
            clear ha0 ha1 z10 z11 z12 z13 f10 f11 f12 f13 z1 f1 d2 d3
            have hgx : wr.heap.size ≤ gx := by rw [HGx.out]; exact HK22.out.1
            have hxn : gx ≠ g := by rw [HGx.out]; exact Nat.ne_of_gt HS22.out.gt
            generalize hW : World.setCell _ _ _ = w24
            have HX24 : Hid (XSt w wr g gx bs a0 a1 w24 (c2 st) (.slice none 0 0) (.slice none 0 0) [] []) := Lib.hid (by
              have hs := HS22.out.below HB23.out
              have hk := HK22.out.trans (KeepR.of_below (gr := g) HB23.out)
              have hz : w.heap.size ≤ gx := Nat.le_trans HRy.out hgx
              rw [← hW]
              refine ⟨(((hs.new hz hxn).new hz hxn).new hz hxn).new hz hxn, (((hk.new hgx).new hgx).new hgx).new hgx, ?_, Kd.R_nil _ _ _ _ _, Kd.R_nil _ _ _ _ _⟩
              simpa using blk_set (blk_set (blk_set (blk_set HX23.out 0 (.int .i64 a0)) 1 (.int .i64 a1)) 2 (.slice none 0 0)) 3 (.slice none 0 0))
            clear hW HS21 HK21 HS22 HK22 HX23 HB23 HGx
            go_upto_region 27 with (first
              | (go_at_call 36; refine (num_c w g bs (srNum 6000 (c2 st)) 6000 w25 HX25.out.1 HB.out hl).mono ?_; rintro e w26 ⟨rfl, hs, hk⟩; have HX26 := Lib.hid (show XSt w wr g gx bs a0 a1 w26 (c4 st) (.slice none 0 0) (.slice none 0 0) [] [] from HX25.out.keep hk hs); clear hs hk)
              | (go_at_call 36; refine (num_c w g bs (c2 st) 6000 w24 HX24.out.1 HB.out hl).mono ?_; rintro e w25 ⟨rfl, hs, hk⟩; have HX25 := Lib.hid (HX24.out.keep hk hs); clear hs hk))
            obtain ⟨ni, hni⟩ : ∃ x, x = svNum 6000 (c2 st) := ⟨_, rfl⟩
            obtain ⟨nm, hnm⟩ : ∃ x, x = svNum 6000 (srNum 6000 (c2 st)) := ⟨_, rfl⟩
            have rni := two_lo HB.out 6000 (by decide) HX24.out.1
            have rnm := two_lo HB.out 6000 (by decide) HX25.out.1
            rw [← hni] at rni
            rw [← hnm] at rnm
            rw [← hni, ← hnm]
            obtain ⟨rni0, rni1⟩ := rni
            obtain ⟨rnm0, rnm1⟩ := rnm
            have HCI : Hid (cIns st = rMany srIns ni.toNat (c4 st)) := Lib.hid (by rw [hni]; rfl)
            have HCR : Hid (srCode st = rMany srMap nm.toNat (cIns st)) := Lib.hid (by rw [hnm]; rfl)
            have HCV : Hid (∀ xs ys, xs = vMany svIns srIns ni.toNat (c4 st) → ys = vMany svMap srMap nm.toNat (cIns st) → (⟨a0, a1, xs, ys⟩ : S53) = svCode st) := Lib.hid (by
              rintro xs ys rfl rfl
              rw [HA0.out, HA1.out, hni, hnm]
              rfl)
            clear hni hnm HX24 HX25 HA0 HA1
            obtain ⟨wo, hwo⟩ : ∃ wo, wo = wr := ⟨_, rfl⟩
            rw [← hwo] at HX26 HRv HRy HJ hgx
            go_upto_block 6 with (fail)
            go_cut [] (fun W => ∃ v2 xs, Hid ((cIns st).2 = false → xs = vMany svIns srIns ni.toNat (c4 st)) ∧ Hid (XSt w wo g gx bs a0 a1 W (cIns st) v2 (.slice none 0 0) xs []))
            case first =>
              go_wp2
              go_loopw [16] (fun v16 wr => ∃ (k : Nat) (xs : List S68) (s2 : RSt) (v2 : Value), v16 = .int .i64 k ∧ Hid (SMan svIns srIns ni.toNat (c4 st) k xs s2) ∧ Hid (XSt w wo g gx bs a0 a1 wr s2 v2 (.slice none 0 0) xs [])) (fun v16 _ => (ni - intOf v16).toNat)
              case atStart => exact ⟨0, [], _, _, rfl, Lib.hid (SMan.start _ _ _ _), HX26⟩
              case round =>
                clear HX26
                obtain ⟨k, xs, s2, v2, rfl, HM2, HX⟩ := hrel
                obtain ⟨z1, f1⟩ := HX.out.1.cell
                obtain ⟨p2, hp⟩ : ∃ p, p = atOf bs s2 := ⟨_, rfl⟩
                rw [← hp] at z1
                have HP2 := Lib.hid hp
                clear hp
                by_cases hgo2 : (k : Int) < ni ∧ s2.2 = false
                · obtain ⟨hlt2, hbd⟩ := hgo2
                  have d2 : decide ((k : Int) < ni) = true := decide_eq_true hlt2
                  have d3 : decide (0 ≤ p2) = true := by rw [HP2.out]; exact atOf_good HX.out.1 hbd
                  have HBd2 := Lib.hid hbd
                  clear hbd
                  have hk6 : k ≤ 6000 := by have := HM2.out.1; omega
                  have hx6 : xs.length ≤ 6000 := by have := HM2.out.2.2.2; omega
                  obtain ⟨A2, q2, e2⟩ := Kd.R_slice HX.out.2.2.2.1
                  subst e2
                  go_upto_region 30 with (fail)
                  have HSd : Hid (Spc w wr.drew g bs s2) := Lib.hid (HX.out.1.below (below_drew (Below.refl _ _)))
                  have HXd := Lib.hid (HX.out.keep (KeepR.of_below (below_drew (Below.refl _ _))) HSd.out)
                  have y1 := (blk_cell HXd.out.2.2.1 2).trans rfl
                  clear z1 f1 HX HSd d2 d3
                  refine wp_region_held_drew (S := fun _ => True) (by kernel_rfl) trivial (fun hHeld => ?_)
                  generalize wr.drew = w34 at *
                  refine wpAnyH_take (i := 0) (v := ?_) rfl (by kernel_rfl) (by kernel_rfl) (by kernel_rfl) (fun _ _ _ h => h) (Or.inl ⟨by rfl, ?_⟩) (by assumption) ?_
                  rotate_left
                  · (intro w' hSw; (try dsimp only at hSw); first | (go_simp; done) | (go_simp; with_reducible rfl))
                  try simp only [Act.put, List.setIfInBounds_toArray, List.set_cons_zero, List.set_cons_succ]
                  refine wpAnyH_take (i := 2) (v := ?_) rfl (by kernel_rfl) (by kernel_rfl) (by kernel_rfl) (fun _ _ _ h => h) (Or.inl ⟨by rfl, ?_⟩) (by assumption) ?_
                  rotate_left
                  · (intro w' hSw; (try dsimp only at hSw); first | (go_simp; done) | (go_simp; with_reducible rfl))
                  try simp only [Act.put, List.setIfInBounds_toArray, List.set_cons_zero, List.set_cons_succ]
                  refine wpAnyH_ready (rs := [1, 3]) (by kernel_rfl) (by simp) ?_
                  refine AllReadyH.cons rfl (fun K hK => ?_) (AllReadyH.cons rfl (fun K hK => ?_) AllReadyH.nil)
                  go_simp
                  refine hK.out _ _ trivial (fun hHeld => ?_)
                  clear hK K
                  try simp only [Act.put, List.setIfInBounds_toArray, List.set_cons_zero, List.set_cons_succ]
                  refine wpAnyH_ready (rs := [3]) (by kernel_rfl) (by simp) ?_
                  refine AllReadyH.cons rfl (fun K hK => ?_) AllReadyH.nil
                  go_simp
                  refine (one_c w g bs s2 w34 HXd.out.1 HB.out hl).mono ?_; rintro e w35 ⟨rfl, hs, hk⟩; have HX5 := Lib.hid (HXd.out.keep hk hs); clear hs hk; have y5 := (blk_cell HX5.out.2.2.1 2).trans rfl
                  go_simp
                  refine hK.out _ _ trivial (fun hHeld => ?_)
                  clear hK K
                  try simp only [Act.put, List.setIfInBounds_toArray, List.set_cons_zero, List.set_cons_succ]
                  refine wpAnyH_ready (rs := [4]) (by kernel_rfl) (by simp) ?_
                  refine AllReadyH.cons rfl (fun K hK => ?_) AllReadyH.nil
                  go_simp
                  refine hK.out _ _ trivial (fun hHeld => ?_)
                  clear hK K
                  try simp only [Act.put, List.setIfInBounds_toArray, List.set_cons_zero, List.set_cons_succ]
                  rotate_left
                  go_simp
                  refine (one_c w g bs s2 w34 HXd.out.1 HB.out hl).mono ?_; rintro e w35 ⟨rfl, hs, hk⟩; have HX5 := Lib.hid (HXd.out.keep hk hs); clear hs hk; have y5 := (blk_cell HX5.out.2.2.1 2).trans rfl
                  go_simp
                  refine hK.out _ _ trivial (fun hHeld => ?_)
                  clear hK K
                  try simp only [Act.put, List.setIfInBounds_toArray, List.set_cons_zero, List.set_cons_succ]
                  refine wpAnyH_ready (rs := [1, 4]) (by kernel_rfl) (by simp) ?_
                  refine AllReadyH.cons rfl (fun K hK => ?_) (AllReadyH.cons rfl (fun K hK => ?_) AllReadyH.nil)
                  go_simp
                  refine hK.out _ _ trivial (fun hHeld => ?_)
                  clear hK K
                  try simp only [Act.put, List.setIfInBounds_toArray, List.set_cons_zero, List.set_cons_succ]
                  refine wpAnyH_ready (rs := [4]) (by kernel_rfl) (by simp) ?_
                  refine AllReadyH.cons rfl (fun K hK => ?_) AllReadyH.nil
                  go_simp
                  refine hK.out _ _ trivial (fun hHeld => ?_)
                  clear hK K
                  try simp only [Act.put, List.setIfInBounds_toArray, List.set_cons_zero, List.set_cons_succ]
                  rotate_left
                  go_simp
                  refine hK.out _ _ trivial (fun hHeld => ?_)
                  clear hK K
                  try simp only [Act.put, List.setIfInBounds_toArray, List.set_cons_zero, List.set_cons_succ]
                  have y6 := (blk_cell (blk_below HX5.out.2.2.1 (below_alloc (Below.refl _ _) (.cells #[.int .i64 (svIns s2).f0, .int .i64 (svIns s2).f1, .int .i64 (svIns s2).f2, .int .i64 (svIns s2).f3, .int .i64 (svIns s2).f4] 68))) 2).trans rfl
                  refine wpAnyH_ready (rs := [1]) (by kernel_rfl) (by simp) ?_
                  refine AllReadyH.cons rfl (fun K hK => ?_) AllReadyH.nil
                  go_simp
                  refine hK.out _ _ trivial (fun hHeld => ?_)
                  clear hK K
                  try simp only [Act.put, List.setIfInBounds_toArray, List.set_cons_zero, List.set_cons_succ]
                  all_goals
                    refine wpAnyH_ready (rs := [5]) (by kernel_rfl) (by simp) ?_
                    refine AllReadyH.cons rfl (fun K hK => ?_) AllReadyH.nil
                    refine Kd.R_append_step k68 (w0 := w35) wo.heap.size (by rfl) (.tmp 156) (.tmp 159) 50 68 (.agg #[.int .i64 0, .int .i64 0, .int .i64 0, .int .i64 0, .int .i64 0]) 40 rfl Try.underlying50 info68 rfl (by decide) (by omega) _ xs (svIns s2) [.int .i64 (svIns s2).f0, .int .i64 (svIns s2).f1, .int .i64 (svIns s2).f2, .int .i64 (svIns s2).f3, .int .i64 (svIns s2).f4] (fun k => k ≠ g) (fun _ => False) rfl rfl (k68_mkM _ _ _ _) (fun _ h => h.elim) (fun k hk => by have := HRv.out; have := HX5.out.2.1.1; omega) HX5.out.2.2.2.1 (Below.refl _ _) HX5.out.2.1.1 (by omega) ?_
                    intro v9 w36 ho hb hg hat
                    obtain ⟨n9, A9, c9, e9⟩ : ∃ n A c, v9 = .slice A n c := by obtain ⟨A, c, h⟩ := Kd.R_slice ho; exact ⟨_, A, c, h⟩
                    subst e9
                    have HX6 := Lib.hid (HX5.out.ins HRy.out hgx HRv.out hb hg ho)
                    have hY := (hg.block gx (blk_lt HX5.out.2.2.1) (Kd.R_ne HX5.out.2.2.2.1 HX5.out.2.2.1 (by decide))).trans HX5.out.2.2.1
                    have z16 := (blk_cell hY 2).trans rfl
                    have f16 := blk_frozen hY 2
                    clear ho hb hg hat hY
                    refine hK.out _ _ trivial (fun hHeld => ?_)
                    clear hK K
                    try simp only [Act.put, List.setIfInBounds_toArray, List.set_cons_zero, List.set_cons_succ]
                    refine wpAnyH_ready (rs := [6]) (by kernel_rfl) (by simp) ?_
                    refine AllReadyH.cons rfl (fun K hK => ?_) AllReadyH.nil
                    go_simp
                    refine hK.out _ _ trivial (fun hHeld => ?_)
                    clear hK K
                    try simp only [Act.put, List.setIfInBounds_toArray, List.set_cons_zero, List.set_cons_succ]
                    refine wpAnyH_ready (rs := [7]) (by kernel_rfl) (by simp) ?_
                    refine AllReadyH.cons rfl (fun K hK => ?_) AllReadyH.nil
                    go_simp
                    refine hK.out _ _ trivial (fun hHeld => ?_)
                    clear hK K
                    try simp only [Act.put, List.setIfInBounds_toArray, List.set_cons_zero, List.set_cons_succ]
                    refine wpAnyH_done (by kernel_rfl) ?_ _
                    go_wp2
                    refine ⟨⟨k + 1, xs ++ [svIns s2], srIns s2, .slice A9 n9 c9, by go_num, Lib.hid (HM2.out.next HBd2.out (by omega) (fun _ => rfl)), HX6⟩, by simp [intOf]; omega⟩
                · obtain ⟨he, hx⟩ := HM2.out.stop (fun h => hgo2 ⟨by omega, h.2⟩)
                  have HE : Hid (s2 = cIns st ∧ ((cIns st).2 = false → xs = vMany svIns srIns ni.toNat (c4 st))) := Lib.hid (by rw [HCI.out]; exact ⟨he, hx⟩)
                  have hex : (decide ((k : Int) < ni) = true ∧ decide (0 ≤ p2) = false) ∨ decide ((k : Int) < ni) = false := by
                    by_cases hlt : (k : Int) < ni
                    · by_cases hb : s2.2 = true
                      · exact .inl ⟨decide_eq_true hlt, by rw [HP2.out]; exact atOf_bad hb⟩
                      · exact absurd ⟨hlt, by simpa using hb⟩ hgo2
                    · exact .inr (decide_eq_false hlt)
                  clear hgo2 he hx
                  rw [HE.out.1] at HX
                  rcases hex with ⟨d2, d3⟩ | d2
                  all_goals
                    go_wp2
                    go_meet
                    case rel => exact ⟨v2, xs, Lib.hid HE.out.2, HX⟩
            case rest =>
              obtain ⟨v2, xs, HXs, HX⟩ := hcut
              obtain ⟨A2, q2, e2⟩ := Kd.R_slice HX.out.2.2.2.1
              subst e2
              go_upto_block 8 with (fail)
              go_cut [] (fun W => ∃ v3 ys, Hid ((srCode st).2 = false → ys = vMany svMap srMap nm.toNat (cIns st)) ∧ Hid (XSt w wo g gx bs a0 a1 W (srCode st) (.slice A2 xs.length q2) v3 xs ys))
              case first => as_aux_lemma =>
                go_wp2
                go_loopw [17] (fun v17 wr => ∃ (k : Nat) (ys : List S72) (s2 : RSt) (v3 : Value), v17 = .int .i64 k ∧ Hid (SMan svMap srMap nm.toNat (cIns st) k ys s2) ∧ Hid (XSt w wo g gx bs a0 a1 wr s2 (.slice A2 xs.length q2) v3 xs ys)) (fun v17 _ => (nm - intOf v17).toNat)
                case atStart => exact ⟨0, [], _, _, rfl, Lib.hid (SMan.start _ _ _ _), HX⟩
                case round =>
                  clear HX
                  obtain ⟨k, ys, s2, v3, rfl, HM2, HX⟩ := hrel
                  obtain ⟨z1, f1⟩ := HX.out.1.cell
                  obtain ⟨p2, hp⟩ : ∃ p, p = atOf bs s2 := ⟨_, rfl⟩
                  rw [← hp] at z1
                  have Hp2 := Lib.hid hp
                  clear hp
                  by_cases hgo2 : (k : Int) < nm ∧ s2.2 = false
                  · obtain ⟨hlt2, hbd⟩ := hgo2
                    have d2 : decide ((k : Int) < nm) = true := decide_eq_true hlt2
                    have d3 : decide (0 ≤ p2) = true := by rw [Hp2.out]; exact atOf_good HX.out.1 hbd
                    have HBd2 := Lib.hid hbd
                    clear hbd
                    have hk6 : k ≤ 6000 := by have := HM2.out.1; omega
                    have hy6 : ys.length ≤ 6000 := by have := HM2.out.2.2.2; omega
                    have HRm := Lib.hid (show g < wr.heap.size from HX.out.1.gt)
                    have HRn := Lib.hid (show wo.heap.size ≤ wr.heap.size from HX.out.2.1.1)
                    have hu72 := Try.underlying72
                    go_upto_region 35 with (first
                      | ((with_reducible refine gate_dst (N := 18) rfl ?_); refine box_event ?hg (N := 18) ?hd (cs := #[.int .i64 0, .slice none 0 0]) (t := 72) ?hr ?_; (case hd => rfl); (case hg => rfl); (case hr => first | (go_simp; done) | (go_simp; rfl)); intro gy hg w32 hbox hb; have HGy := Lib.hid hg; have HY32 := Lib.hid hbox; have HB32 := Lib.hid hb; have z10 := (blk_cell hbox 0).trans rfl; have z11 := (blk_cell hbox 1).trans rfl; have f10 := blk_frozen hbox 0; have f11 := blk_frozen hbox 1; clear hbox hb hg)
                      | (go_at_call 36; refine (num_c w g bs s2 6000 wr HX.out.1 HB.out hl).mono ?_; rintro e w31 ⟨rfl, hs, hk⟩; have HS31 := Lib.hid hs; have HK31 := Lib.hid hk; clear hs hk))
                    obtain ⟨p0, hp0⟩ : ∃ x, x = svNum 6000 s2 := ⟨_, rfl⟩
                    rw [← hp0]
                    have HP0 := Lib.hid hp0
                    clear hp0 z10 z11 f10 f11 z1 f1 d2 d3
                    have hgy : wr.heap.size ≤ gy := by rw [HGy.out]; exact HK31.out.1
                    have hyn : gy ≠ g := by rw [HGy.out]; exact Nat.ne_of_gt HS31.out.gt
                    generalize hW : World.setCell _ _ _ = w33
                    have HY33 : Hid (YSt w wr g gy bs p0 w33 (srNum 6000 s2) (.slice none 0 0) []) := Lib.hid (by
                      have hs := HS31.out.below HB32.out
                      have hk := HK31.out.trans (KeepR.of_below (gr := g) HB32.out)
                      have hz : w.heap.size ≤ gy := Nat.le_trans (Nat.le_trans HRy.out HRn.out) hgy
                      rw [← hW]
                      refine ⟨(hs.new hz hyn).new hz hyn, (hk.new hgy).new hgy, ?_, Kd.R_nil _ _ _ _ _⟩
                      simpa using blk_set (blk_set HY32.out 0 (.int .i64 p0)) 1 (.slice none 0 0))
                    clear hW HS31 HK31 HY32 HB32 HGy
                    go_upto_region 36 with (go_at_call 36; refine (num_c w g bs (srNum 6000 s2) 1000 w33 HY33.out.1 HB.out hl).mono ?_; rintro e w34 ⟨rfl, hs, hk⟩; have HY34 := Lib.hid (HY33.out.keep hk hs); clear hs hk)
                    obtain ⟨nn, hnn⟩ : ∃ x, x = svNum 1000 (srNum 6000 s2) := ⟨_, rfl⟩
                    have rnn := two_lo HB.out 1000 (by decide) HY33.out.1
                    rw [← hnn] at rnn
                    rw [← hnn]
                    obtain ⟨rnn0, rnn1⟩ := rnn
                    have HMR : Hid (srMap s2 = rMany (srNum 1000) nn.toNat (srNum 1000 (srNum 6000 s2))) := Lib.hid (by rw [hnn]; rfl)
                    have HMV : Hid (∀ zs, zs = vMany (svNum 1000) (srNum 1000) nn.toNat (srNum 1000 (srNum 6000 s2)) → (⟨p0, zs⟩ : S72) = svMap s2) := Lib.hid (by
                      rintro zs rfl
                      rw [HP0.out, hnn]
                      rfl)
                    clear hnn HY33 HP0
                    obtain ⟨wm, hwm⟩ : ∃ wm, wm = wr := ⟨_, rfl⟩
                    rw [← hwm] at HY34 HRm HRn HX hgy
                    go_upto_block 10 with (fail)
                    go_cut [] (fun W => ∃ v5 zs, Hid ((srMap s2).2 = false → zs = vMany (svNum 1000) (srNum 1000) nn.toNat (srNum 1000 (srNum 6000 s2))) ∧ Hid (YSt w wm g gy bs p0 W (srMap s2) v5 zs))
                    case first =>
                      go_wp2
                      go_loopw [20] (fun v20 wr => ∃ (j : Nat) (zs : List Int) (s3 : RSt) (v5 : Value), v20 = .int .i64 j ∧ Hid (SMan (svNum 1000) (srNum 1000) nn.toNat (srNum 1000 (srNum 6000 s2)) j zs s3) ∧ Hid (YSt w wm g gy bs p0 wr s3 v5 zs)) (fun v20 _ => (nn - intOf v20).toNat)
                      case atStart => exact ⟨0, [], _, _, rfl, Lib.hid (SMan.start _ _ _ _), HY34⟩
                      case round =>
                        clear HY34
                        obtain ⟨j, zs, s3, v5, rfl, HM3, HY⟩ := hrel
                        obtain ⟨z1, f1⟩ := HY.out.1.cell
                        obtain ⟨p3, hp⟩ : ∃ p, p = atOf bs s3 := ⟨_, rfl⟩
                        rw [← hp] at z1
                        have Hp3 := Lib.hid hp
                        clear hp
                        by_cases hgo3 : (j : Int) < nn ∧ s3.2 = false
                        · obtain ⟨hlt3, hbd⟩ := hgo3
                          have d2 : decide ((j : Int) < nn) = true := decide_eq_true hlt3
                          have d3 : decide (0 ≤ p3) = true := by rw [Hp3.out]; exact atOf_good HY.out.1 hbd
                          have HBd3 := Lib.hid hbd
                          clear hbd
                          have hj1 : j ≤ 1000 := by have := HM3.out.1; omega
                          have hz1 : zs.length ≤ 1000 := by have := HM3.out.2.2.2; omega
                          obtain ⟨A5, q5, e5⟩ := Kd.R_slice HY.out.2.2.2
                          subst e5
                          go_upto_region 39 with (fail)
                          have HSd : Hid (Spc w wr.drew g bs s3) := Lib.hid (HY.out.1.below (below_drew (Below.refl _ _)))
                          have HYd := Lib.hid (HY.out.keep (KeepR.of_below (below_drew (Below.refl _ _))) HSd.out)
                          have y1 := (blk_cell HYd.out.2.2.1 1).trans rfl
                          clear z1 f1 HY HSd d2 d3
                          refine wp_region_held_drew (S := fun _ => True) (by kernel_rfl) trivial (fun hHeld => ?_)
                          generalize wr.drew = w44 at *
                          refine wpAnyH_take (i := 0) (v := ?_) rfl (by kernel_rfl) (by kernel_rfl) (by kernel_rfl) (fun _ _ _ h => h) (Or.inl ⟨by rfl, ?_⟩) (by assumption) ?_
                          rotate_left
                          · (intro w' hSw; (try dsimp only at hSw); first | (go_simp; done) | (go_simp; with_reducible rfl))
                          try simp only [Act.put, List.setIfInBounds_toArray, List.set_cons_zero, List.set_cons_succ]
                          refine wpAnyH_take (i := 2) (v := ?_) rfl (by kernel_rfl) (by kernel_rfl) (by kernel_rfl) (fun _ _ _ h => h) (Or.inl ⟨by rfl, ?_⟩) (by assumption) ?_
                          rotate_left
                          · (intro w' hSw; (try dsimp only at hSw); first | (go_simp; done) | (go_simp; with_reducible rfl))
                          try simp only [Act.put, List.setIfInBounds_toArray, List.set_cons_zero, List.set_cons_succ]
                          refine wpAnyH_ready (rs := [1, 3]) (by kernel_rfl) (by simp) ?_
                          refine AllReadyH.cons rfl (fun K hK => ?_) (AllReadyH.cons rfl (fun K hK => ?_) AllReadyH.nil)
                          go_simp
                          refine hK.out _ _ trivial (fun hHeld => ?_)
                          clear hK K
                          try simp only [Act.put, List.setIfInBounds_toArray, List.set_cons_zero, List.set_cons_succ]
                          refine wpAnyH_ready (rs := [3]) (by kernel_rfl) (by simp) ?_
                          refine AllReadyH.cons rfl (fun K hK => ?_) AllReadyH.nil
                          go_simp
                          refine (num_c w g bs s3 1000 w44 HYd.out.1 HB.out hl).mono ?_; rintro e w45 ⟨rfl, hs, hk⟩; have HY5 := Lib.hid (HYd.out.keep hk hs); clear hs hk; have y5 := (blk_cell HY5.out.2.2.1 1).trans rfl
                          go_simp
                          refine hK.out _ _ trivial (fun hHeld => ?_)
                          clear hK K
                          try simp only [Act.put, List.setIfInBounds_toArray, List.set_cons_zero, List.set_cons_succ]
                          refine wpAnyH_ready (rs := [4]) (by kernel_rfl) (by simp) ?_
                          refine AllReadyH.cons rfl (fun K hK => ?_) AllReadyH.nil
                          go_simp
                          refine hK.out _ _ trivial (fun hHeld => ?_)
                          clear hK K
                          try simp only [Act.put, List.setIfInBounds_toArray, List.set_cons_zero, List.set_cons_succ]
                          rotate_left
                          go_simp
                          refine (num_c w g bs s3 1000 w44 HYd.out.1 HB.out hl).mono ?_; rintro e w45 ⟨rfl, hs, hk⟩; have HY5 := Lib.hid (HYd.out.keep hk hs); clear hs hk; have y5 := (blk_cell HY5.out.2.2.1 1).trans rfl
                          go_simp
                          refine hK.out _ _ trivial (fun hHeld => ?_)
                          clear hK K
                          try simp only [Act.put, List.setIfInBounds_toArray, List.set_cons_zero, List.set_cons_succ]
                          refine wpAnyH_ready (rs := [1, 4]) (by kernel_rfl) (by simp) ?_
                          refine AllReadyH.cons rfl (fun K hK => ?_) (AllReadyH.cons rfl (fun K hK => ?_) AllReadyH.nil)
                          go_simp
                          refine hK.out _ _ trivial (fun hHeld => ?_)
                          clear hK K
                          try simp only [Act.put, List.setIfInBounds_toArray, List.set_cons_zero, List.set_cons_succ]
                          refine wpAnyH_ready (rs := [4]) (by kernel_rfl) (by simp) ?_
                          refine AllReadyH.cons rfl (fun K hK => ?_) AllReadyH.nil
                          go_simp
                          refine hK.out _ _ trivial (fun hHeld => ?_)
                          clear hK K
                          try simp only [Act.put, List.setIfInBounds_toArray, List.set_cons_zero, List.set_cons_succ]
                          rotate_left
                          go_simp
                          refine hK.out _ _ trivial (fun hHeld => ?_)
                          clear hK K
                          try simp only [Act.put, List.setIfInBounds_toArray, List.set_cons_zero, List.set_cons_succ]
                          have y6 := (blk_cell (blk_below HY5.out.2.2.1 (below_alloc (Below.refl _ _) (.cells #[.int .i64 (svNum 1000 s3)] 3))) 1).trans rfl
                          refine wpAnyH_ready (rs := [1]) (by kernel_rfl) (by simp) ?_
                          refine AllReadyH.cons rfl (fun K hK => ?_) AllReadyH.nil
                          go_simp
                          refine hK.out _ _ trivial (fun hHeld => ?_)
                          clear hK K
                          try simp only [Act.put, List.setIfInBounds_toArray, List.set_cons_zero, List.set_cons_succ]
                          all_goals
                            refine wpAnyH_ready (rs := [5]) (by kernel_rfl) (by simp) ?_
                            refine AllReadyH.cons rfl (fun K hK => ?_) AllReadyH.nil
                            refine Kd.R_append_step (Kd.int .i64) (w0 := w45) wm.heap.size (by rfl) (.tmp 192) (.tmp 195) 70 3 (.int .i64 0) 8 rfl Try.underlying70 info3 rfl (by decide) (by omega) _ zs (svNum 1000 s3) [.int .i64 (svNum 1000 s3)] (fun k => k ≠ g) (fun _ => False) rfl rfl (show Kd.M (Kd.int .i64) _ _ _ (svNum 1000 s3) [.int .i64 (svNum 1000 s3)] from rfl) (fun _ h => h.elim) (fun k hk => by have := HRm.out; have := HY5.out.2.1.1; omega) HY5.out.2.2.2 (Below.refl _ _) HY5.out.2.1.1 (by omega) ?_
                            intro v9 w46 ho hb hg hat
                            obtain ⟨n9, A9, c9, e9⟩ : ∃ n A c, v9 = .slice A n c := by obtain ⟨A, c, h⟩ := Kd.R_slice ho; exact ⟨_, A, c, h⟩
                            subst e9
                            have HY6 := Lib.hid (HY5.out.slots (Nat.le_trans HRy.out HRn.out) hgy HRm.out hb hg ho)
                            have hY := (hg.block gy (blk_lt HY5.out.2.2.1) (Kd.R_ne HY5.out.2.2.2 HY5.out.2.2.1 (by decide))).trans HY5.out.2.2.1
                            have z16 := (blk_cell hY 1).trans rfl
                            have f16 := blk_frozen hY 1
                            clear ho hb hg hat hY
                            refine hK.out _ _ trivial (fun hHeld => ?_)
                            clear hK K
                            try simp only [Act.put, List.setIfInBounds_toArray, List.set_cons_zero, List.set_cons_succ]
                            refine wpAnyH_ready (rs := [6]) (by kernel_rfl) (by simp) ?_
                            refine AllReadyH.cons rfl (fun K hK => ?_) AllReadyH.nil
                            go_simp
                            refine hK.out _ _ trivial (fun hHeld => ?_)
                            clear hK K
                            try simp only [Act.put, List.setIfInBounds_toArray, List.set_cons_zero, List.set_cons_succ]
                            refine wpAnyH_ready (rs := [7]) (by kernel_rfl) (by simp) ?_
                            refine AllReadyH.cons rfl (fun K hK => ?_) AllReadyH.nil
                            go_simp
                            refine hK.out _ _ trivial (fun hHeld => ?_)
                            clear hK K
                            try simp only [Act.put, List.setIfInBounds_toArray, List.set_cons_zero, List.set_cons_succ]
                            refine wpAnyH_done (by kernel_rfl) ?_ _
                            go_wp2
                            refine ⟨⟨j + 1, zs ++ [svNum 1000 s3], srNum 1000 s3, .slice A9 n9 c9, by go_num, Lib.hid (HM3.out.next HBd3.out (by omega) (fun _ => rfl)), HY6⟩, by simp [intOf]; omega⟩
                        · obtain ⟨he, hx⟩ := HM3.out.stop (fun h => hgo3 ⟨by omega, h.2⟩)
                          have HE : Hid (s3 = srMap s2 ∧ ((srMap s2).2 = false → zs = vMany (svNum 1000) (srNum 1000) nn.toNat (srNum 1000 (srNum 6000 s2)))) := Lib.hid (by rw [HMR.out]; exact ⟨he, hx⟩)
                          have hex : (decide ((j : Int) < nn) = true ∧ decide (0 ≤ p3) = false) ∨ decide ((j : Int) < nn) = false := by
                            by_cases hlt : (j : Int) < nn
                            · by_cases hb : s3.2 = true
                              · exact .inl ⟨decide_eq_true hlt, by rw [Hp3.out]; exact atOf_bad hb⟩
                              · exact absurd ⟨hlt, by simpa using hb⟩ hgo3
                            · exact .inr (decide_eq_false hlt)
                          clear hgo3 he hx
                          rw [HE.out.1] at HY
                          rcases hex with ⟨d2, d3⟩ | d2
                          all_goals
                            go_wp2
                            go_meet
                            case rel => exact ⟨v5, zs, Lib.hid HE.out.2, HY⟩
                    case rest =>
                      obtain ⟨v5, zs, HZs, HY⟩ := hcut
                      obtain ⟨A5, q5, e5⟩ := Kd.R_slice HY.out.2.2.2
                      subst e5
                      obtain ⟨A3, q3, e3⟩ := Kd.R_slice HX.out.2.2.2.2
                      subst e3
                      have HX2 := Lib.hid (HX.out.keep HY.out.2.1 HY.out.1)
                      have HQ2 := Lib.hid (R_fresh HY.out.2.2.2 HRn.out)
                      have y0 := (blk_cell HX2.out.2.2.1 3).trans rfl
                      have y1 := (blk_cell HY.out.2.2.1 0).trans rfl
                      have y2 := (blk_cell HY.out.2.2.1 1).trans rfl
                      go_wp2_with ((with_reducible refine gate_builtin (b := .append) (xs := #[.tmp 199, .tmp 201]) rfl ?_); at_builtin; refine Kd.R_append k72 (w0 := wc) wo.heap.size rfl (.tmp 199) (.tmp 201) 51 72 (.agg #[.int .i64 0, .slice none 0 0]) 32 rfl Try.underlying51 info72 rfl (by decide) (by omega) _ ys ⟨p0, zs⟩ [.int .i64 p0, .slice A5 zs.length q5] (fun k => k ≠ g) (fun k => wm.heap.size ≤ k ∧ k ≠ g) rfl rfl (k72_mkM _ _ _ _ HQ2.out) (fun k h => ⟨h.2, fun e => by have := Kd.R_lt HX.out.2.2.2.2 k e.symm; omega⟩) (fun k hk => by have := HRm.out; have := HY.out.2.1.1; omega) HX2.out.2.2.2.2 (Below.refl _ _) HX2.out.2.1.1 (by omega) ?_; intro v9 w12 ho hb hg hat; obtain ⟨n9, A9, q9, e9⟩ : ∃ n A c, v9 = .slice A n c := (by obtain ⟨A, c, h⟩ := Kd.R_slice ho; exact ⟨_, A, c, h⟩); subst e9; have HX3 := Lib.hid (HX2.out.maps HRy.out hgx HRv.out hb hg ho); have hY := (hg.block gx (blk_lt HX2.out.2.2.1) (Kd.R_ne HX2.out.2.2.2.2 HX2.out.2.2.1 (by decide))).trans HX2.out.2.2.1; have z16 := (blk_cell hY 3).trans rfl; have f16 := blk_frozen hY 3; clear ho hb hg hat hY)
                      refine ⟨⟨k + 1, ys ++ [⟨p0, zs⟩], srMap s2, _, by go_num, Lib.hid (HM2.out.next HBd2.out (by omega) (fun h => HMV.out zs (HZs.out h))), HX3⟩, by simp [intOf]; omega⟩
                  · obtain ⟨he, hx⟩ := HM2.out.stop (fun h => hgo2 ⟨by omega, h.2⟩)
                    have HE : Hid (s2 = srCode st ∧ ((srCode st).2 = false → ys = vMany svMap srMap nm.toNat (cIns st))) := Lib.hid (by rw [HCR.out]; exact ⟨he, hx⟩)
                    have hex : (decide ((k : Int) < nm) = true ∧ decide (0 ≤ p2) = false) ∨ decide ((k : Int) < nm) = false := by
                      by_cases hlt : (k : Int) < nm
                      · by_cases hb : s2.2 = true
                        · exact .inl ⟨decide_eq_true hlt, by rw [Hp2.out]; exact atOf_bad hb⟩
                        · exact absurd ⟨hlt, by simpa using hb⟩ hgo2
                      · exact .inr (decide_eq_false hlt)
                    clear hgo2 he hx
                    rw [HE.out.1] at HX
                    rcases hex with ⟨d2, d3⟩ | d2
                    all_goals
                      go_wp2
                      go_meet
                      case rel => exact ⟨v3, ys, Lib.hid HE.out.2, HX⟩
              case rest =>
                obtain ⟨v3, ys, HYs, HX⟩ := hcut
                obtain ⟨A3, q3, e3⟩ := Kd.R_slice HX.out.2.2.2.2
                subst e3
                obtain ⟨n1, A1, q1, e1⟩ : ∃ n A c, v1 = .slice A n c := by obtain ⟨A, c, h⟩ := Kd.R_slice HJ.out.2.2.2.2; exact ⟨_, A, c, h⟩
                subst e1
                have HJ2 := Lib.hid (HJ.out.keep HX.out.2.1 HX.out.1)
                have HQ2 := Lib.hid (R_fresh HX.out.2.2.2.1 HRy.out)
                have HQ3 := Lib.hid (R_fresh HX.out.2.2.2.2 HRy.out)
                have y0 := (blk_cell HJ2.out.2.2.1 1).trans rfl
                have y1 := (blk_cell HX.out.2.2.1 0).trans rfl
                have y2 := (blk_cell HX.out.2.2.1 1).trans rfl
                have y3 := (blk_cell HX.out.2.2.1 2).trans rfl
                have y4 := (blk_cell HX.out.2.2.1 3).trans rfl
                go_wp2_with ((with_reducible refine gate_builtin (b := .append) (xs := #[.tmp 205, .tmp 207]) rfl ?_); at_builtin; refine Kd.R_append k53 (w0 := wc) w.heap.size rfl (.tmp 205) (.tmp 207) 28 53 (.agg #[.int .i64 0, .int .i64 0, .slice none 0 0, .slice none 0 0]) 64 rfl Try.underlying28 info53 rfl (by decide) (by omega) _ l1 ⟨a0, a1, xs, ys⟩ [.int .i64 a0, .int .i64 a1, .slice A2 xs.length q2, .slice A3 ys.length q3] (fun k => k ≠ g) (fun k => wo.heap.size ≤ k ∧ k ≠ g) rfl rfl (k53_mkM _ _ _ _ HQ2.out HQ3.out) (fun k h => ⟨h.2, fun e => by have := Kd.R_lt HJ.out.2.2.2.2 k e.symm; omega⟩) (fun k hk => by have := HRv.out; have := HX.out.2.1.1; omega) HJ2.out.2.2.2.2 (Below.refl _ _) (Nat.le_trans HRy.out HX.out.2.1.1) (by omega) ?_; intro v9 w12 ho hb hg hat; obtain ⟨n9, A9, q9, e9⟩ : ∃ n A c, v9 = .slice A n c := (by obtain ⟨A, c, h⟩ := Kd.R_slice ho; exact ⟨_, A, c, h⟩); subst e9; have HJ3 := Lib.hid (HJ2.out.codes HG5'.out.1 HG5'.out.2 hb hg ho); have hY := (hg.block g5 (blk_lt HJ2.out.2.2.1) (Kd.R_ne HJ2.out.2.2.2.2 HJ2.out.2.2.1 (by decide))).trans HJ2.out.2.2.1; have z16 := (blk_cell hY 1).trans rfl; have f16 := blk_frozen hY 1; clear ho hb hg hat hY)
                refine ⟨⟨i + 1, l1 ++ [⟨a0, a1, xs, ys⟩], srCode st, _, by go_num, Lib.hid (HM.out.next HBd.out (by omega) (fun h => HCV.out xs ys (HXs.out (rMany_of (by rw [HCR.out] at h; exact h))) (HYs.out h))), HJ3⟩, by simp [intOf]; omega⟩
          · obtain ⟨he, hx⟩ := HM.out.stop (fun h => hgo ⟨by omega, h.2⟩)
            have HE : Hid (st = tC (st0 bs) ∧ ((tC (st0 bs)).2 = false → l1 = tCodes (st0 bs))) := Lib.hid (by
              rw [HNc.out] at he hx
              exact ⟨he, hx⟩)
            have hex : (decide ((i : Int) < nc) = true ∧ decide (0 ≤ p) = false) ∨ decide ((i : Int) < nc) = false := by
              by_cases hlt : (i : Int) < nc
              · by_cases hb : st.2 = true
                · exact .inl ⟨decide_eq_true hlt, by rw [HP.out]; exact atOf_bad hb⟩
                · exact absurd ⟨hlt, by simpa using hb⟩ hgo
              · exact .inr (decide_eq_false hlt)
            clear hgo he hx
            rw [HE.out.1] at HJ
            rcases hex with ⟨d2, d3⟩ | d2
            all_goals
              go_wp2
              go_meet
              case rel => exact ⟨v1, l1, Lib.hid HE.out.2, HJ⟩
      case rest =>
        obtain ⟨v1, l1, HL1, HJ⟩ := hcut
        obtain ⟨A1, q1, e1⟩ := Kd.R_slice HJ.out.2.2.2.2
        subst e1
        have z1 := HJ.out.1.cell.1
        obtain ⟨p, hp⟩ : ∃ p, p = atOf bs (tC (st0 bs)) := ⟨_, rfl⟩
        rw [← hp] at z1
        by_cases hend : p = (bs.length : Int)
        · have d1 : (p != (bs.length : Int)) = false := by rw [hend]; exact bne_self_eq_false _
          have hgood : (tC (st0 bs)).2 = false ∧ (tC (st0 bs)).1 = [] := by
            rw [hp] at hend
            unfold atOf at hend
            by_cases d : (tC (st0 bs)).2 = true
            · rw [if_pos d] at hend; omega
            · rw [if_neg d] at hend
              have hz : (tC (st0 bs)).1.length = 0 := by omega
              exact ⟨by simpa using d, List.eq_nil_of_length_eq_zero hz⟩
          have HGd := Lib.hid hgood
          have hst : (tS (st0 bs)).2 = false := rMany_of hgood.1
          have HEq : Hid (l0 = tStructs (st0 bs) ∧ l1 = tCodes (st0 bs) ∧ mn = tMain (st0 bs)) := Lib.hid ⟨HL0.out hst, HL1.out hgood.1, HMn.out⟩
          have HSz : Hid ((imgB l0 l1 mn).length ≤ 1099511627) := Lib.hid (by
            rw [HEq.out.1, HEq.out.2.1, HEq.out.2.2, img_tail]
            have hby : Byt (st0 bs).1 := by
              have h := HB.out
              rw [← List.take_append_drop 2 bs] at h
              exact h.right
            have h := congrArg List.length (img_sound (st0 bs) hby hgood.1).1
            rw [List.length_append] at h
            have h2 : (st0 bs).1.length = bs.length - 2 := List.length_drop
            have := HH.out.1
            simp only [List.length_cons]
            omega)
          have HT := Lib.hid (Go.Proofs.Ytkfeoilnhpfknaa.ImgSFnExactImageRead.spec_tells l0 l1 mn HSz.out)
          clear hgood hst hp hend
          have HZ0 := Lib.hid (Kd.R_reads' HJ.out.2.2.2.1)
          have HZ1 := Lib.hid (Kd.R_reads' HJ.out.2.2.2.2)
          have y0 := (blk_cell HJ.out.2.2.1 0).trans rfl
          have y1 := (blk_cell HJ.out.2.2.1 1).trans rfl
          have y2 := (blk_cell HJ.out.2.2.1 2).trans rfl
          have hu30 := Try.underlying30
          obtain ⟨t, ht, KK, hK⟩ := HT.out
          have HTt := Lib.hid ht
          have HTK := Lib.hid (hK KK (Nat.le_refl _))
          clear ht hK
          by_cases hok : ImgOk l0 l1 mn
          · obtain rfl : t = true := HTt.out.2 hok
            have HGo : Hid (SGoes bs) := Lib.hid ⟨HH.out.2, HH.out.1, HQ0.out.symm, HQ1.out.symm, HGd.out.1, HGd.out.2, by rw [← HEq.out.1, ← HEq.out.2.1, ← HEq.out.2.2]; exact hok⟩
            go_wp2_with (go_at_call 7; refine (spec_ImageOk.calls KK A0 q0 l0 A1 q1 l1 mn true wc HZ0.out.2.2 HZ0.out.2.1 HZ1.out.2.2 HZ1.out.2.1 HTK.out).mono ?_; rintro e w7 ⟨rfl, hb⟩; have HB7 := Lib.hid hb; clear hb y0 y1 y2; have HX7 := Lib.hid (blk_below HJ.out.2.1 HB7.out); have HX57 := Lib.hid (blk_below HJ.out.2.2.1 HB7.out); have y0 := (blk_cell HX57.out 0).trans rfl; have y1 := (blk_cell HX57.out 1).trans rfl; have y2 := (blk_cell HX57.out 2).trans rfl; have z20 := (blk_cell HX7.out 0).trans rfl; have z21 := (blk_cell HX7.out 1).trans rfl; have z22 := (blk_cell HX7.out 2).trans rfl; have f20 := blk_frozen HX7.out 0; have f21 := blk_frozen HX7.out 1; have f22 := blk_frozen HX7.out 2)
            generalize hW : World.setCell _ _ _ = wz
            obtain ⟨hb, hX⟩ := three_set (below_step HJ.out.1.1 HB7.out) Hg2.out HX7.out (.slice A0 l0.length q0) (.slice A1 l1.length q1) (.int .i64 mn)
            have t0 := Kd.R_set (Kd.R_set (Kd.R_set (Kd.R_below HJ.out.2.2.2.1 HB7.out) HX7.out (by decide) 0 (.slice A0 l0.length q0)) (blk_set HX7.out 0 (.slice A0 l0.length q0)) (by decide) 1 (.slice A1 l1.length q1)) (blk_set (blk_set HX7.out 0 (.slice A0 l0.length q0)) 1 (.slice A1 l1.length q1)) (by decide) 2 (.int .i64 mn)
            have t1 := Kd.R_set (Kd.R_set (Kd.R_set (Kd.R_below HJ.out.2.2.2.2 HB7.out) HX7.out (by decide) 0 (.slice A0 l0.length q0)) (blk_set HX7.out 0 (.slice A0 l0.length q0)) (by decide) 1 (.slice A1 l1.length q1)) (blk_set (blk_set HX7.out 0 (.slice A0 l0.length q0)) 1 (.slice A1 l1.length q1)) (by decide) 2 (.int .i64 mn)
            rw [hW] at hb hX t0 t1
            (try simp only [Exit.inBlock, Exit.then])
            refine bodyPost_ret (results_cell_row_tmp rfl _ _ g2 30 _ (0, 0) _ rfl hX Try.underlying30 rfl (by kernel_rfl)) rfl ?_
            exact ⟨true, _, _, l0, l1, mn, rfl, Kd.R_mono t0 (fun _ _ => trivial), Kd.R_mono t1 (fun _ _ => trivial), hb, ⟨fun _ => HGo.out, fun _ => rfl⟩, by rw [if_pos rfl]; exact HEq.out⟩
          · obtain rfl : t = false := by
              cases t
              · rfl
              · exact absurd (HTt.out.1 rfl) hok
            have hno : ¬ SGoes bs := fun h => hok (by rw [HEq.out.1, HEq.out.2.1, HEq.out.2.2]; exact h.2.2.2.2.2.2)
            go_wp2_with (go_at_call 7; refine (spec_ImageOk.calls KK A0 q0 l0 A1 q1 l1 mn false wc HZ0.out.2.2 HZ0.out.2.1 HZ1.out.2.2 HZ1.out.2.1 HTK.out).mono ?_; rintro e w7 ⟨rfl, hb⟩; have HB7 := Lib.hid hb; clear hb y0 y1 y2; have HX7 := Lib.hid (blk_below HJ.out.2.1 HB7.out); have z20 := (blk_cell HX7.out 0).trans rfl; have z21 := (blk_cell HX7.out 1).trans rfl; have z22 := (blk_cell HX7.out 2).trans rfl; have f20 := blk_frozen HX7.out 0; have f21 := blk_frozen HX7.out 1; have f22 := blk_frozen HX7.out 2)
            generalize hW : World.setCell _ _ _ = wz
            obtain ⟨hb, hX⟩ := three_set (below_step HJ.out.1.1 HB7.out) Hg2.out HX7.out (.slice none 0 0) (.slice none 0 0) (.int .i64 0)
            rw [hW] at hb hX
            (try simp only [Exit.inBlock, Exit.then])
            refine bodyPost_ret (results_cell_row_tmp rfl _ _ g2 30 _ (0, 0) _ rfl hX Try.underlying30 rfl (by kernel_rfl)) rfl ?_
            exact SReadI.no hb hno
        · have d1 : (p != (bs.length : Int)) = true := by simpa using hend
          have hno : ¬ SGoes bs := fun h => hend (by
            rw [hp]
            unfold atOf
            rw [h.2.2.2.2.1, h.2.2.2.2.2.1, if_neg (by decide)]
            show (bs.length : Int) - ((0 : Nat) : Int) = _
            omega)
          clear hend hp
          have z20 := (blk_cell HJ.out.2.1 0).trans rfl
          have z21 := (blk_cell HJ.out.2.1 1).trans rfl
          have z22 := (blk_cell HJ.out.2.1 2).trans rfl
          have f20 := blk_frozen HJ.out.2.1 0
          have f21 := blk_frozen HJ.out.2.1 1
          have f22 := blk_frozen HJ.out.2.1 2
          go_wp2
          generalize hW : World.setCell _ _ _ = wz
          obtain ⟨hb, hX⟩ := three_set HJ.out.1.1 Hg2.out HJ.out.2.1 (.slice none 0 0) (.slice none 0 0) (.int .i64 0)
          rw [hW] at hb hX
          (try simp only [Exit.inBlock, Exit.then])
          refine bodyPost_ret (results_cell_row_tmp rfl _ _ g2 30 _ (0, 0) _ rfl hX Try.underlying30 rfl (by kernel_rfl)) rfl ?_
          exact SReadI.no hb hno
  · have hno : ¬ SGoes bs := fun h => hq ⟨HQ0.out.trans h.2.2.1, HQ1.out.trans h.2.2.2.1⟩
    have hex : (q0 != 71) = true ∨ ((q0 != 71) = false ∧ (q1 != 73) = true) := by
      by_cases h0 : q0 = 71
      · right
        refine ⟨by rw [h0]; rfl, ?_⟩
        have : q1 ≠ 73 := fun h1 => hq ⟨h0, h1⟩
        simpa using this
      · left; simpa using h0
    clear hq
    rcases hex with d3 | ⟨d3, d4⟩
    all_goals
      go_enter Try.func17, Try.ntmps17
      go_upto_region 1 with ((with_reducible refine gate_dst (N := 2) rfl ?_); refine box_event ?hg (N := 2) ?hd (cs := #[.slice none 0 0, .slice none 0 0, .int .i64 0]) (t := 30) ?hr ?_; (case hd => rfl); (case hg => rfl); (case hr => first | (go_simp; done) | (go_simp; rfl)); intro g2 hg w2 hbox hb; have HG2 := Lib.hid hg; have HX2 := Lib.hid hbox; have HB2 := Lib.hid hb; clear hbox hb hg)
      have x0 := pw_cell_below HB2.out HX0.out
      have x1 := pw_cell_below HB2.out HX1.out
      have z0 := (blk_cell HX2.out 0).trans rfl
      have z1 := (blk_cell HX2.out 1).trans rfl
      have z2 := (blk_cell HX2.out 2).trans rfl
      have f0 := blk_frozen HX2.out 0
      have f1 := blk_frozen HX2.out 1
      have f2 := blk_frozen HX2.out 2
      go_wp2
      generalize hW : World.setCell _ _ _ = w3
      obtain ⟨hb, hX⟩ := three_set HB2.out (Nat.le_of_eq HG2.out.symm) HX2.out (.slice none 0 0) (.slice none 0 0) (.int .i64 0)
      rw [hW] at hb hX
      (try simp only [Exit.inBlock, Exit.then])
      refine bodyPost_ret (results_cell_row_tmp rfl _ _ g2 30 _ (0, 0) _ rfl hX Try.underlying30 rfl (by kernel_rfl)) rfl ?_
      exact SReadI.no hb hno

end Go.Proofs.Ytkfeoilnhpfknaa.ImFnExactImageRead
