/- The contract of impl.ImageRead. -/
import Derived.Test.YtkfeoilnhpfknaaRdgFnExactImageRead
import Derived.Test.YtkfeoilnhpfknaaImjFnExactImageRead
import Derived.Test.YtkfeoilnhpfknaaImnFnExactImageRead
namespace Go.Proofs.Ytkfeoilnhpfknaa.ImFnExactImageRead
open Go.RowKit Go.Proofs.Ytkfeoilnhpfknaa.QFnExactImageRead Go.Proofs.YtkfeoilnhpfknaaW.PrintWords Go.Proofs.YtkfeoilnhpfknaaW.PrintLast
attribute [local go_sem ↓] Go.wp_at_zero Go.wp_at_succ
set_option linter.unusedSimpArgs false
set_option linter.unusedVariables false

theorem S_fresh {α : Type} {d : Kd α} {e base gr : Nat} {w w1 : World} {v : Value} {xs : List α} (h : Kd.S d e w1 w.heap.size (fun k => k ≠ gr) v xs) (hb : base ≤ w.heap.size) : Kd.S d e w1 base (fun k => w.heap.size ≤ k ∧ k ≠ gr) v xs :=
  Kd.S_lower (Kd.S_mono (Kd.S_bound h) (fun k hk => ⟨hk.2.1, hk.1⟩)) hb

set_option maxHeartbeats 8000000 in
set_option maxRecDepth 100000 in
theorem read_c (A : Option Addr) (c : Nat) (bs : List Int) (w : World) (hC : Kd.C (Kd.int .u8) w A bs.length bs) (hc : bs.length ≤ c) (hl : bs.length ≤ 1099511627) :
    Calls Try.prog 19 #[.slice A bs.length c] w (ReadI bs w) := by
  have HC := Lib.hid hC
  clear hC
  have kc := fun (w : World) (C : Array Value) (n c : Nat) => Lib.run_convert_bytes_const (P := Try.prog) w 34 5 C n c Try.underlying34 Try.underlying5
  go_enter Try.func19, Try.ntmps19
  go_upto_region 1 with ((with_reducible refine gate_dst (N := 2) rfl ?_); refine box_event ?hg (N := 2) ?hd (cs := #[.slice none 0 0, .slice none 0 0, .int .i64 0]) (t := 30) ?hr ?_; (case hd => rfl); (case hg => rfl); (case hr => first | (go_simp; done) | (go_simp; rfl)); intro g2 hg w2 hbox hb; have HG2 := Lib.hid hg; have HX2 := Lib.hid hbox; have HB2 := Lib.hid hb; clear hbox hb hg)
  have HC2 := Lib.hid (Kd.C_below HC.out HB2.out)
  by_cases hbig : (200000 : Int) < (bs.length : Int)
  · have d1 : decide ((200000 : Int) < (bs.length : Int)) = true := decide_eq_true hbig
    have z0 := (blk_cell HX2.out 0).trans rfl
    have z1 := (blk_cell HX2.out 1).trans rfl
    have z2 := (blk_cell HX2.out 2).trans rfl
    have f0 := blk_frozen HX2.out 0
    have f1 := blk_frozen HX2.out 1
    have f2 := blk_frozen HX2.out 2
    have hno : ¬ Goes bs := fun h => h.1 (by omega)
    go_wp2
    generalize hW : World.setCell _ _ _ = w3
    obtain ⟨hb, hX⟩ := three_set HB2.out (Nat.le_of_eq HG2.out.symm) HX2.out (.slice none 0 0) (.slice none 0 0) (.int .i64 0)
    rw [hW] at hb hX
    (try simp only [Exit.inBlock, Exit.then])
    refine bodyPost_ret (results_cell_row_tmp rfl _ _ g2 30 _ (0, 0) _ rfl hX Try.underlying30 rfl (by kernel_rfl)) rfl ?_
    exact ReadI.no hb hno
  · have d1 : decide ((200000 : Int) < (bs.length : Int)) = false := decide_eq_false hbig
    have HC3 := Lib.hid (Kd.C_below HC2.out (below_alloc (Below.refl _ _) (.cells #[.int .u8 71, .int .u8 73] 5 (2, 3))))
    by_cases hpre : preOk bs = true
    · have HP : Hid ((decide (([71, 73] : List Int).length ≤ bs.length) && ((strOfNums (bs.take ([71, 73] : List Int).length)).toList == (strOfNums [71, 73]).toList)) = true) := Lib.hid hpre
      go_upto_region 3 with (go_at_call 38; refine (prefix_c A c bs (some ⟨w2.heap.size, 0, none⟩) 2 [71, 73] _ HC3.out hc (gi_Cs w2) (by decide)).mono ?_; rintro e w3 ⟨rfl, hk⟩; rw [HP.out]; have HB3 := Lib.hid hk; clear hk)
      have HB4 : Hid (Below w.heap.size w w3) := Lib.hid (below_step (below_alloc HB2.out _) HB3.out.below)
      have HX3 := Lib.hid (blk_below (blk_below HX2.out (below_alloc (Below.refl _ _) (.cells #[.int .u8 71, .int .u8 73] 5 (2, 3)))) HB3.out.below)
      have h2 : 2 ≤ bs.length := by
        have h := HP.out
        rw [Bool.and_eq_true, decide_eq_true_iff] at h
        exact h.1
      clear HP HB2 HX2 HC2 HC3 HB3
      have hg2 : w.heap.size ≤ g2 := Nat.le_of_eq HG2.out.symm
      have p1 : (2 : Int) ≤ (bs.length : Int) := by omega
      have p2 : (2 : Int) ≤ (c : Int) := by omega
      go_cut [4, 5] from 11 (fun v4 v5 W => ∃ gr g5, v4 = .pointer (some ⟨gr, 0, none⟩) ∧ v5 = .pointer (some ⟨g5, 0, none⟩) ∧ Hid (w.heap.size ≤ g5 ∧ g2 ≠ g5) ∧ Hid (Rdr w W gr (bs.drop 2) false) ∧ Hid (W.heap[g2]? = some (.cells #[.slice none 0 0, .slice none 0 0, .int .i64 0] 30 (0, 0))) ∧ Hid (W.heap[g5]? = some (.cells #[.slice none 0 0, .slice none 0 0, .int .i64 0] 30 (0, 0))))
      case first =>
        have hd := Kd.C_drop HC.out (m := 2) h2 hc
        have hs : (Kd.int .u8).sz = 1 := rfl
        rw [hs, Nat.mul_one, List.length_drop] at hd
        have HD : Hid (∃ A' c', (A' = if c = 2 then A else A.map (·.add 2)) ∧ c' = c - 2 ∧ bs.length - 2 ≤ c' ∧ Kd.C (Kd.int .u8) w A' (bs.length - 2) (bs.drop 2)) := Lib.hid ⟨_, _, rfl, rfl, by omega, hd⟩
        clear hd hs
        by_cases hc2 : c = 2
        subst hc2
        all_goals
          obtain ⟨A', c', hA', hc', hle, hD⟩ := HD.out
          have HDx := Lib.hid hD
          have HA := Lib.hid hA'
          have Hcc := Lib.hid hc'
          clear hD hA' hc' HD
          go_wp2_with (first
            | ((with_reducible refine gate_dst (N := 4) rfl ?_); refine box_event ?hg (N := 4) ?hd (cs := #[.slice none 0 0, .bool false]) (t := 74) ?hr ?_; (case hd => rfl); (case hg => rfl); (case hr => first | (go_simp; done) | (go_simp; rfl)); intro gr hg w4 hbox hb; have HG4 := Lib.hid hg; have HX4 := Lib.hid hbox; have HB5 := Lib.hid hb; clear hbox hb hg)
            | ((with_reducible refine gate_dst (N := 5) rfl ?_); refine box_event ?hg (N := 5) ?hd (cs := #[.slice none 0 0, .slice none 0 0, .int .i64 0]) (t := 30) ?hr ?_; (case hd => rfl); (case hg => rfl); (case hr => first | (go_simp; done) | (go_simp; rfl)); intro g5 hg w5 hbox hb; have HG5 := Lib.hid hg; have HX5 := Lib.hid hbox; have HB6 := Lib.hid hb; have HX6 := Lib.hid (blk_below HX4.out hb); have y0 := (blk_cell HX6.out 0).trans rfl; have y1 := (blk_cell HX6.out 1).trans rfl; have e0 := blk_frozen HX6.out 0; have e1 := blk_frozen HX6.out 1; have z0 := (blk_cell hbox 0).trans rfl; have z1 := (blk_cell hbox 1).trans rfl; have z2 := (blk_cell hbox 2).trans rfl; have f0 := blk_frozen hbox 0; have f1 := blk_frozen hbox 1; have f2 := blk_frozen hbox 2; have n1 : g5 ≠ gr := blk_apart hbox HX6.out (by decide); have n2 : gr ≠ g5 := Ne.symm n1; clear hbox hb hg))
          generalize hW : World.setCell _ _ _ = w6
          have hg5 : w.heap.size ≤ g5 := by rw [HG5.out]; exact Nat.le_trans HB4.out.size HB5.out.size
          have hgr : w.heap.size ≤ gr := by rw [HG4.out]; exact HB4.out.size
          have hB5 : Below w.heap.size w w5 := below_step (below_step HB4.out HB5.out) HB6.out
          have hX2 : w5.heap[g2]? = some (.cells #[.slice none 0 0, .slice none 0 0, .int .i64 0] 30 (0, 0)) := blk_below (blk_below HX3.out HB5.out) HB6.out
          have hn25 : g2 ≠ g5 := by rw [HG5.out]; exact Nat.ne_of_lt (blk_lt (blk_below HX3.out HB5.out))
          have hn2r : g2 ≠ gr := by rw [HG4.out]; exact Nat.ne_of_lt (blk_lt HX3.out)
          obtain ⟨q1, q2, q3, q4⟩ := start_set hB5 hgr hg5 n1 hn2r hn25 HX6.out HX5.out hX2 hW
          go_meet
          case rel =>
            refine ⟨gr, g5, rfl, rfl, Lib.hid ⟨hg5, hn25⟩, Lib.hid ⟨hgr, q1, A', c', ?_, ?_, ?_⟩, Lib.hid q4, Lib.hid q3⟩
            · rw [q2, HA.out, Hcc.out, List.length_drop]
              first
              | (rw [if_neg hc2]; rfl)
              | (have hz : bs.length - 2 = 0 := (by omega); simp [hz])
            · rw [List.length_drop]; exact hle
            · rw [List.length_drop]; exact HDx.out
      case rest =>
        obtain ⟨gr, g5, rfl, rfl, HG5, HR, HX2, HX5⟩ := hcut
        have HRw := Lib.hid (show gr < wc.heap.size from by obtain ⟨_, _, h⟩ := HR.out.has; exact blk_lt h)
        have HRx := Lib.hid (show w.heap.size ≤ wc.heap.size from HR.out.2.1.size)
        clear HB4 HX3
        have hl0 : (bs.drop 2).length ≤ 1099511627776 := by rw [List.length_drop]; omega
        obtain ⟨y2, hy2⟩ : ∃ y2 : List Int, y2 = [0, 0, 0] := ⟨_, rfl⟩
        have Ny2 := Lib.hid hy2
        clear hy2
        go_upto_region 5 with (first
          | (go_at_call 39; refine (ints_c w gr (bs.drop 2) false 3 wc HR.out hl0).mono ?_; rintro e w31 ⟨v, rfl, hR, hr, hk⟩; obtain ⟨Av1, cv1, rfl⟩ := Kd.R_slice hR; have HO1 := Lib.hid hR; have HR1 := Lib.hid hr; have HK1 := Lib.hid hk; clear hR hr hk)
          | ((with_reducible refine gate_dst (N := 27) rfl ?_); refine Kd.R_lit (Kd.int .i64) _ 3 ?hg (N := 27) ?hd (xs := [0, 0, 0]) (inner := [.int .i64 0, .int .i64 0, .int .i64 0]) (ok := fun _ => True) (okp := fun _ => True) ?hr ?hp (fun _ hk => hk) trivial (Below.refl _ _) (Nat.le_refl _) (by simp) ?_; (case hd => rfl); (case hg => rfl); (case hr => first | (go_simp; done) | (go_simp; rfl)); (case hp => exact (Reps.one (show Kd.M (Kd.int .i64) _ _ _ (0 : Int) [.int .i64 0] from rfl) (Reps.one (show Kd.M (Kd.int .i64) _ _ _ (0 : Int) [.int .i64 0] from rfl) (Reps.one (show Kd.M (Kd.int .i64) _ _ _ (0 : Int) [.int .i64 0] from rfl) (Reps.none _ _))))); intro vL w32 hoL hb hg_ hnew_; clear hg_ hnew_; rw [← Ny2.out] at hoL; have HOL := Lib.hid hoL; have HO2 := Lib.hid (Kd.R_below HO1.out hb); have HR2 := Lib.hid (HR1.out.below hb); have HK2 := Lib.hid (HK1.out.trans (KeepR.of_below hb)); clear hb hoL; obtain ⟨Ao8, co8, eo8⟩ := Kd.R_slice HOL.out; subst eo8)
          | ((with_reducible refine gate_builtin (b := .append) (xs := #[.tmp 26, .tmp 27]) rfl ?_); at_builtin; refine Kd.R_append_rows (Kd.int .i64) (w0 := w32) wc.heap.size rfl (.tmp 26) (.tmp 27) 70 3 (.int .i64 0) 8 rfl Try.underlying70 info3 rfl (by decide) (by omega) _ (vInts 3 (st0 bs)) y2 _ _ _ (fun k => k ≠ gr) (fun _ => False) rfl rfl ?aO ?aR (fun _ _ h => h) (fun _ h => h.elim) ?aF ?aB ?aS ?aL ?_; (case aO => exact HO2.out); (case aR => exact (Kd.R_reads' HOL.out).2.2); (case aB => exact Below.refl _ _); (case aF => exact (fun k hk => by have := HRw.out; have := HK2.out.1; omega)); (case aS => exact HK2.out.1); (case aL => have := intsV_len 3 (bs.drop 2) false; have := congrArg List.length Ny2.out; rw [List.length_cons, List.length_cons, List.length_singleton] at this; show ((intsV 3 (bs.drop 2) false).length + _) * 8 ≤ _; omega); intro v155 w33 ho hb hg hat; rw [Ny2.out] at ho; have HO3 := Lib.hid (show Kd.R (Kd.int .i64) 3 w33 wc.heap.size (fun k => k ≠ gr) v155 (hImg (st0 bs)) from ho); have HK3 := Lib.hid (HK2.out.grow hb); have HR3 := Lib.hid (HR2.out.grow hb HRx.out (hb.block gr HRw.out)); clear ho hb hg hat))
        have n2 : g2 ≠ gr := HR.out.ne HX2.out (by decide)
        have n5 : g5 ≠ gr := HR.out.ne HX5.out (by decide)
        have HY2 := Lib.hid ((HK3.out.2 g2 (blk_lt HX2.out) n2).trans HX2.out)
        have HY5 := Lib.hid ((HK3.out.2 g5 (blk_lt HX5.out) n5).trans HX5.out)
        have HOw := Lib.hid (Kd.R_lower HO3.out HRx.out)
        clear HO1 HO2 HOL HR1 HR2 HK1 HK2 HO3
        obtain ⟨hd, hhd⟩ : ∃ hd, hd = hImg (st0 bs) := ⟨_, rfl⟩
        have Nh := Lib.hid hhd
        rw [← hhd] at HOw
        have hh3 : 3 ≤ hd.length := by rw [hhd]; unfold hImg; rw [List.length_append]; simp
        clear hhd
        obtain ⟨Ah, ch, e5⟩ := Kd.R_slice HOw.out
        subst e5
        obtain ⟨ah, e0, c2⟩ := at_R HOw.out 2 (by omega)
        subst e0
        replace c2 : w33.cell? ⟨ah.block, ah.off + 2, none⟩ = some (.int .i64 (hd.getD 2 0)) := c2
        obtain ⟨a2, ha2⟩ : ∃ a2, a2 = hd.getD 2 0 := ⟨_, rfl⟩
        rw [← ha2] at c2
        have N2 := Lib.hid ha2
        clear ha2
        obtain ⟨L, hL⟩ : ∃ L, L = hd.length := ⟨_, rfl⟩
        rw [← hL] at HOw hh3 ⊢
        have NL := Lib.hid hL
        clear hL
        have b1 : (2 : Int) < (L : Int) := by omega
        have b2 : 2 < L := by omega
        have z2 := (blk_cell HY5.out 2).trans rfl
        have f2 := blk_frozen HY5.out 2
        go_upto_region 6 with (fail)
        generalize hW : World.setCell _ _ _ = w6
        have HI : Hid (ISt w gr g2 g5 hd (.slice (some ah) L ch) a2 w6 (rInts 3 (st0 bs)) (.slice none 0 0) (.slice none 0 0) [] []) := Lib.hid (by
          rw [← hW]
          exact ⟨Kd.R_set HOw.out HY5.out (by decide) 2 _, HR3.out.new HG5.out.1 n5, (Below.heap_setCell w33 ⟨g5, 2, none⟩ _ g2 HG5.out.2).trans HY2.out, by simpa using blk_set HY5.out 2 (.int .i64 a2), Kd.S_nil _ _ _ _ _, Kd.S_nil _ _ _ _ _⟩)
        clear hW HOw HR3 HK3 HY2 HY5 HR HX2 HX5 z2 f2 c2
        have hls : (rInts 3 (st0 bs)).1.length ≤ 1099511627 := Nat.le_trans (rInts_len 3 (st0 bs)) (by show (bs.drop 2).length ≤ _; rw [List.length_drop]; omega)
        obtain ⟨a0, ha0⟩ : ∃ a0, a0 = hd.getD 0 0 := ⟨_, rfl⟩
        have N0 := Lib.hid ha0
        clear ha0
        have HSs : Hid (vStructs (st0 bs) = vMany vStruct rStruct a0.toNat (rInts 3 (st0 bs)) ∧ sStructs (st0 bs) = rMany rStruct a0.toNat (rInts 3 (st0 bs))) := Lib.hid (by rw [N0.out, Nh.out]; exact ⟨rfl, rfl⟩)
        go_upto_block 0 with (fail)
        go_cut [] from 11 (fun W => ∃ v0, Hid (ISt w gr g2 g5 hd (.slice (some ah) L ch) a2 W (sStructs (st0 bs)) v0 (.slice none 0 0) (vStructs (st0 bs)) []))
        case first =>
          go_wp2
          go_loopw [7] (fun v7 wr => ∃ (i : Nat) (l0 : List (List Bool)) (st : RSt) (v0 : Value), v7 = .int .i64 i ∧ Hid (Man vStruct rStruct a0.toNat (rInts 3 (st0 bs)) i l0 st) ∧ Hid (ISt w gr g2 g5 hd (.slice (some ah) L ch) a2 wr st v0 (.slice none 0 0) l0 [])) (fun v7 _ => (a0 - intOf v7).toNat)
          case atStart => exact ⟨0, [], _, _, rfl, Lib.hid (Man.start _ _ _ _), HI⟩
          case round =>
            clear HI
            obtain ⟨i, l0, st, v0, rfl, HM, HI⟩ := hrel
            obtain ⟨ah', e0, c0⟩ := at_R HI.out.1 0 (by have := NL.out; omega)
            obtain rfl : ah = ah' := Option.some.inj e0
            rw [show ah.add 0 = ah from by unfold Addr.add; rfl, ← N0.out] at c0
            clear e0
            have b3 : (0 : Int) < (L : Int) := by omega
            have b4 : 0 < L := by omega
            obtain ⟨A1, c1, hb⟩ := HI.out.2.1.has
            have z1 : wr.cell? ⟨gr, 1, none⟩ = some (.bool st.2) := (blk_cell hb 1).trans rfl
            clear hb
            have hsl : st.1.length ≤ 1099511627 := Nat.le_trans HM.out.2.2.2.2.1 hls
            by_cases hgo : (i : Int) < a0 ∧ st.2 = false
            · obtain ⟨hlt, hbd⟩ := hgo
              have d2 : decide ((i : Int) < a0) = true := decide_eq_true hlt
              have HBd := Lib.hid hbd
              rw [hbd] at z1
              clear hbd
              have HRv := Lib.hid (show gr < wr.heap.size from by obtain ⟨_, _, h⟩ := HI.out.2.1.has; exact blk_lt h)
              have HRy := Lib.hid (show w.heap.size ≤ wr.heap.size from HI.out.2.1.2.1.size)
              have hnr := numV_range 2 st.1
              have hl2 : st.1.length ≤ 1099511627776 := by omega
              go_upto_block 2 with (first
                | ((with_reducible refine gate_dst (N := 45) rfl ?_); refine Kd.R_lit Kd.bool _ 4 ?hg (N := 45) ?hd (xs := ([] : List Bool)) (inner := []) (ok := fun _ => True) (okp := fun _ => True) ?hr ?hp (fun _ hk => hk) trivial (Below.refl _ _) (Nat.le_refl _) (by simp) ?_; (case hd => rfl); (case hg => rfl); (case hr => first | (go_simp; done) | (go_simp; rfl)); (case hp => exact (Reps.none _ _)); intro v8 w8 hoL hb hg_ hnew_; clear hg_ hnew_; have HO8 := Lib.hid (Kd.R_mono (Kd.R_bound hoL) (ok' := fun k => k ≠ gr) (fun k hk => by have := hk.2.1; have := HRv.out; omega)); have HR8 := Lib.hid (HI.out.2.1.below hb); have HK8 := Lib.hid (KeepR.of_below (gr := gr) hb); clear hb hoL)
                | (go_at_call 40; refine (number_c w gr st.1 st.2 2 w8 (by decide) HR8.out hl2).mono ?_; rintro e w9 ⟨rfl, hr, hk⟩; have HO9 := Lib.hid (Kd.R_keepR HO8.out hk.keepR (fun _ h => h)); have HR9 := Lib.hid hr; have HK9 := Lib.hid (HK8.out.trans hk.keepR); clear hr hk))
              obtain ⟨n, hn⟩ : ∃ n, n = numV 2 st.1 := ⟨_, rfl⟩
              rw [← hn] at hnr ⊢
              have HST : Hid (vStruct st = vMany vBool (rNum 1) n.toNat (rNum 2 st) ∧ rStruct st = rMany (rNum 1) n.toNat (rNum 2 st)) := Lib.hid (by rw [hn]; exact ⟨rfl, rfl⟩)
              clear hn c0 z1 d2
              obtain ⟨wo, hwo⟩ : ∃ wo, wo = wr := ⟨_, rfl⟩
              rw [← hwo] at HO9 HK9 HRv HRy HI
              have hlt2 : (rNum 2 st).1.length ≤ 1099511627 := Nat.le_trans (rNum_len 2 st) hsl
              go_cut [8] (fun v8 W => Hid (Kd.R Kd.bool 4 W wo.heap.size (fun k => k ≠ gr) v8 (vStruct st)) ∧ Hid (Rdr w W gr (rStruct st).1 (rStruct st).2) ∧ Hid (KeepR gr wo W))
              case first =>
                go_wp2
                go_loopw [8, 9] (fun v8 v9 wr => ∃ (j : Nat) (ys : List Bool) (s2 : RSt), v9 = .int .i64 (n - j) ∧ Hid (Man vBool (rNum 1) n.toNat (rNum 2 st) j ys s2) ∧ Hid (Kd.R Kd.bool 4 wr wo.heap.size (fun k => k ≠ gr) v8 ys) ∧ Hid (Rdr w wr gr s2.1 s2.2) ∧ Hid (KeepR gr wo wr)) (fun _ v9 _ => (intOf v9).toNat)
                case atStart => exact ⟨0, [], rNum 2 st, by simp, Lib.hid (Man.start _ _ _ _), HO9, HR9, HK9⟩
                case round =>
                  clear HO9 HR9 HK9
                  obtain ⟨j, ys, s2, rfl, HM2, HO, HR, HK⟩ := hrel
                  obtain ⟨A2, c2, hb⟩ := HR.out.has
                  have z1 : wr.cell? ⟨gr, 1, none⟩ = some (.bool s2.2) := (blk_cell hb 1).trans rfl
                  clear hb
                  have hs2 : s2.1.length ≤ 1099511627776 := by have := HM2.out.2.2.2.2.1; omega
                  by_cases hgo2 : (0 : Int) < n - j ∧ s2.2 = false
                  · obtain ⟨hlt, hbd⟩ := hgo2
                    have d3 : decide ((0 : Int) < n - j) = true := decide_eq_true hlt
                    have d4 : decide ((j : Int) < n) = true := decide_eq_true (by omega)
                    have HBd2 := Lib.hid hbd
                    have hsm : ys.length ≤ 1099511627 := by rw [HM2.out.2.2.2.1]; exact Nat.le_trans (HM2.out.small hbd) hlt2
                    rw [hbd] at z1
                    clear hbd
                    obtain ⟨A8, c8, e8⟩ := Kd.R_slice HO.out
                    subst e8
                    go_wp2_with (first
                      | (go_at_call 40; refine (number_c w gr s2.1 s2.2 1 wr (by decide) HR.out hs2).mono ?_; rintro e w10 ⟨rfl, hr, hk⟩; have HO2 := Lib.hid (Kd.R_keepR HO.out hk.keepR (fun _ h => h)); have HR2 := Lib.hid hr; have HK2 := Lib.hid (HK.out.trans hk.keepR); clear hr hk)
                      | ((with_reducible refine gate_builtin (b := .append) (xs := #[.tmp 56, .tmp 59]) rfl ?_); at_builtin; refine Kd.R_append Kd.bool (w0 := w10) wo.heap.size rfl (.tmp 56) (.tmp 59) 55 4 (.bool false) 1 rfl Try.underlying55 info4 rfl (by decide) (by omega) _ ys (vBool s2) [.bool (numV 1 s2.1 == 1)] (fun k => k ≠ gr) (fun _ => False) rfl rfl (show Kd.M Kd.bool _ _ _ (vBool s2) [.bool (vBool s2)] from rfl) (fun _ h => h.elim) (fun k hk => by have := HRv.out; have := HK2.out.1; omega) HO2.out (Below.refl _ _) HK2.out.1 (by omega) ?_; intro v60 w11 ho hb hg hat; have HO3 := Lib.hid ho; have HK3 := Lib.hid (HK2.out.grow hb); have HR3 := Lib.hid (HR2.out.grow hb HRy.out (hb.block gr HRv.out)); clear ho hb hg hat))
                    refine ⟨⟨j + 1, ys ++ [vBool s2], rNum 1 s2, ?_, Lib.hid (HM2.out.next HBd2.out (by omega) (rNum_len 1 s2) (rNum_or 1 s2 (by decide))), HO3, HR3, HK3⟩, by simp [intOf]; omega⟩
                    congr 1
                    go_num
                  · have HE : Hid (ys = vMany vBool (rNum 1) n.toNat (rNum 2 st) ∧ s2 = rMany (rNum 1) n.toNat (rNum 2 st)) := Lib.hid (by
                      by_cases hb : s2.2 = true
                      · exact HM2.out.stop_bad hb
                      · exact HM2.out.stop (fun h => hgo2 ⟨by omega, by simpa using hb⟩))
                    have hex : (decide ((0 : Int) < n - j) = true ∧ s2.2 = true) ∨ decide ((0 : Int) < n - j) = false := by
                      by_cases hlt : (0 : Int) < n - j
                      · by_cases hb : s2.2 = true
                        · exact .inl ⟨decide_eq_true hlt, hb⟩
                        · exact absurd ⟨hlt, by simpa using hb⟩ hgo2
                      · exact .inr (decide_eq_false hlt)
                    clear hgo2
                    rw [HE.out.1, ← HST.out.1] at HO
                    rw [HE.out.2, ← HST.out.2] at HR
                    rcases hex with ⟨d3, hb⟩ | d3
                    rw [hb] at z1
                    have d4 : decide ((j : Int) < n) = true := decide_eq_true (by have := of_decide_eq_true d3; omega)
                    rotate_left
                    have d4 : decide ((j : Int) < n) = false := decide_eq_false (by have := of_decide_eq_false d3; omega)
                    all_goals
                      go_wp2
                      go_meet
                      case rel => exact ⟨HO, HR, HK⟩
              case rest =>
                obtain ⟨HO, HR, HK⟩ := hcut
                obtain ⟨A8, c8, e8⟩ := Kd.R_slice HO.out
                subst e8
                have HI2 := Lib.hid (HI.out.keep (s1 := rStruct st) HK.out HR.out)
                obtain ⟨n0, A0, q0, e0⟩ : ∃ n A c, v0 = .slice A n c := by obtain ⟨A, c, h⟩ := Kd.S_slice HI.out.2.2.2.2.1; exact ⟨_, A, c, h⟩
                subst e0
                have HS2 := Lib.hid (S_split HI.out.2.2.2.2.1 HK.out)
                have HQ2 := Lib.hid (R_fresh HO.out HRy.out)
                have y0 := (blk_cell HI2.out.2.2.2.1 0).trans rfl
                have hsm : l0.length ≤ 1099511627 := by rw [HM.out.2.2.2.1]; exact Nat.le_trans (HM.out.small HBd.out) hls
                have hib : i ≤ 1099511627 := Nat.le_trans (HM.out.small HBd.out) hls
                go_wp2_with ((with_reducible refine gate_builtin (b := .append) (xs := #[.tmp 62, .tmp 64]) rfl ?_); at_builtin; refine Kd.S_append (Kd.slice 4 Kd.bool) (w0 := wc) w.heap.size rfl (.tmp 62) (.tmp 64) 22 55 (.slice none 0 0) 24 rfl Try.underlying22 info55 rfl (by decide) (by omega) _ l0 (vStruct st) [.slice A8 (vStruct st).length c8] (fun k => k ≠ gr) (fun k => wo.heap.size ≤ k ∧ k ≠ gr) rfl rfl ⟨_, rfl, HQ2.out⟩ (fun k h => ⟨h.2, fun e => by have := Kd.S_lt HI.out.2.2.2.2.1 k e.symm; omega⟩) (fun k hk => by have := HRv.out; have := HK.out.1; omega) HS2.out (Below.refl _ _) (Nat.le_trans HRy.out HK.out.1) (by omega) ?_; intro v9 w12 ho hb hg hat; obtain ⟨n9, A9, q9, e9⟩ : ∃ n A c, v9 = .slice A n c := (by obtain ⟨A, c, h⟩ := Kd.S_slice ho; exact ⟨_, A, c, h⟩); subst e9; have HI3 := Lib.hid (HI2.out.structs HG5.out.1 HG5.out.2 hb hg ho); have hY := (hg.block g5 (blk_lt HI2.out.2.2.2.1) (Kd.S_ne HI2.out.2.2.2.2.1 HI2.out.2.2.2.1 (by decide))).trans HI2.out.2.2.2.1; have z16 := (blk_cell hY 0).trans rfl; have f16 := blk_frozen hY 0; clear ho hb hg hat hY)
                refine ⟨⟨i + 1, l0 ++ [vStruct st], rStruct st, _, by go_num, Lib.hid (HM.out.next HBd.out (by omega) (rStruct_len _) (rStruct_or _)), HI3⟩, by simp [intOf]; omega⟩
            · have HE : Hid (l0 = vStructs (st0 bs) ∧ st = sStructs (st0 bs)) := Lib.hid (by
                rw [HSs.out.1, HSs.out.2]
                by_cases hb : st.2 = true
                · exact HM.out.stop_bad hb
                · exact HM.out.stop (fun h => hgo ⟨by omega, by simpa using hb⟩))
              have hex : (decide ((i : Int) < a0) = true ∧ st.2 = true) ∨ decide ((i : Int) < a0) = false := by
                by_cases hlt : (i : Int) < a0
                · by_cases hb : st.2 = true
                  · exact .inl ⟨decide_eq_true hlt, hb⟩
                  · exact absurd ⟨hlt, by simpa using hb⟩ hgo
                · exact .inr (decide_eq_false hlt)
              clear hgo
              rw [HE.out.1, HE.out.2] at HI
              rcases hex with ⟨d2, hb⟩ | d2
              rw [hb] at z1
              all_goals
                go_wp2
                go_meet
                case rel => exact ⟨v0, HI⟩
        case rest =>
          obtain ⟨v0, HI⟩ := hcut
          have hlc : (sStructs (st0 bs)).1.length ≤ 1099511627 := Nat.le_trans (rMany_len rStruct_len _ _) hls
          obtain ⟨a1, ha1⟩ : ∃ a1, a1 = hd.getD 1 0 := ⟨_, rfl⟩
          have N1 := Lib.hid ha1
          clear ha1
          have HCs : Hid (vCodes (st0 bs) = vMany vCode rCode a1.toNat (sStructs (st0 bs)) ∧ sCodes (st0 bs) = rMany rCode a1.toNat (sStructs (st0 bs))) := Lib.hid (by rw [N1.out, Nh.out]; exact ⟨rfl, rfl⟩)
          have N2' : Hid (a2 = vMain (st0 bs)) := Lib.hid (by rw [N2.out, Nh.out]; rfl)
          obtain ⟨ls, hls'⟩ : ∃ ls, ls = vStructs (st0 bs) := ⟨_, rfl⟩
          rw [← hls'] at HI
          have NLs := Lib.hid hls'
          clear hls' HSs N0 N2
          obtain ⟨n0, A0, q0, e0⟩ : ∃ n A c, v0 = .slice A n c := by obtain ⟨A, c, h⟩ := Kd.S_slice HI.out.2.2.2.2.1; exact ⟨_, A, c, h⟩
          subst e0
          go_upto_block 4 with (fail)
          go_cut [] from 11 (fun W => ∃ v1, Hid (ISt w gr g2 g5 hd (.slice (some ah) L ch) a2 W (sCodes (st0 bs)) (.slice A0 n0 q0) v1 ls (vCodes (st0 bs))))
          case first =>
            go_wp2
            go_loopw [10] (fun v10 wr => ∃ (i : Nat) (l1 : List S53) (st : RSt) (v1 : Value), v10 = .int .i64 i ∧ Hid (Man vCode rCode a1.toNat (sStructs (st0 bs)) i l1 st) ∧ Hid (ISt w gr g2 g5 hd (.slice (some ah) L ch) a2 wr st (.slice A0 n0 q0) v1 ls l1)) (fun v10 _ => (a1 - intOf v10).toNat)
            case atStart => exact ⟨0, [], _, _, rfl, Lib.hid (Man.start _ _ _ _), HI⟩
            case round =>
              clear HI
              obtain ⟨i, l1, st, v1, rfl, HM, HI⟩ := hrel
              obtain ⟨ah', e0, c1⟩ := at_R HI.out.1 1 (by have := NL.out; omega)
              obtain rfl : ah = ah' := Option.some.inj e0
              replace c1 : wr.cell? ⟨ah.block, ah.off + 1, none⟩ = some (.int .i64 (hd.getD 1 0)) := c1
              rw [← N1.out] at c1
              clear e0
              have b3 : (1 : Int) < (L : Int) := by omega
              have b4 : 1 < L := by omega
              obtain ⟨A1, c3, hb⟩ := HI.out.2.1.has
              have z1 : wr.cell? ⟨gr, 1, none⟩ = some (.bool st.2) := (blk_cell hb 1).trans rfl
              clear hb
              have hsl : st.1.length ≤ 1099511627 := Nat.le_trans HM.out.2.2.2.2.1 hlc
              by_cases hgo : (i : Int) < a1 ∧ st.2 = false
              · obtain ⟨hlt, hbd⟩ := hgo
                have d2 : decide ((i : Int) < a1) = true := decide_eq_true hlt
                have HBd := Lib.hid hbd
                rw [hbd] at z1
                clear hbd
                have HRv := Lib.hid (show gr < wr.heap.size from by obtain ⟨_, _, h⟩ := HI.out.2.1.has; exact blk_lt h)
                have HRy := Lib.hid (show w.heap.size ≤ wr.heap.size from HI.out.2.1.2.1.size)
                have hib : i ≤ 1099511627 := Nat.le_trans (HM.out.small HBd.out) hlc
                have hsm : l1.length ≤ 1099511627 := by rw [HM.out.2.2.2.1]; exact hib
                obtain ⟨n1, A1, q1, e1⟩ : ∃ n A c, v1 = .slice A n c := by obtain ⟨A, c, h⟩ := Kd.S_slice HI.out.2.2.2.2.2; exact ⟨_, A, c, h⟩
                subst e1
                go_upto_region 18 with (fail)
                have HKd : Hid (KeepR gr wr wr.drew) := Lib.hid (KeepR.of_below (below_drew (Below.refl _ _)))
                have HRd : Hid (Rdr w wr.drew gr st.1 st.2) := Lib.hid (HI.out.2.1.below (below_drew (Below.refl _ _)))
                have HId := Lib.hid (HI.out.keep (s1 := st) HKd.out HRd.out)
                have HSz : Hid (w.heap.size ≤ wr.drew.heap.size) := Lib.hid HRd.out.size
                have HGz : Hid (gr < wr.drew.heap.size) := Lib.hid (by obtain ⟨_, _, h⟩ := HRd.out.has; exact blk_lt h)
                have y1 := (blk_cell HId.out.2.2.2.1 1).trans rfl
                clear c1 z1 HI HKd HRv HRy b3 b4
                refine wp_region_held_drew (S := fun _ => True) (by kernel_rfl) trivial (fun hHeld => ?_)
                generalize wr.drew = w34 at *
                refine wpAnyH_take (i := 0) (v := ?_) rfl (by kernel_rfl) (by kernel_rfl) (by kernel_rfl) (fun _ _ _ h => h) (Or.inl ⟨by rfl, ?_⟩) (by assumption) ?_
                rotate_left
                · (intro w' hSw; (try dsimp only at hSw); first | (go_simp; done) | (go_simp; with_reducible rfl))
                try simp only [Act.put, List.setIfInBounds_toArray, List.set_cons_zero, List.set_cons_succ]
                refine wpAnyH_ready (rs := [1, 2]) (by kernel_rfl) (by simp) ?_
                refine AllReadyH.cons rfl (fun K hK => ?_) (AllReadyH.cons rfl (fun K hK => ?_) AllReadyH.nil)
                go_simp
                refine hK.out _ _ trivial (fun hHeld => ?_)
                clear hK K
                try simp only [Act.put, List.setIfInBounds_toArray, List.set_cons_zero, List.set_cons_succ]
                refine wpAnyH_ready (rs := [2]) (by kernel_rfl) (by simp) ?_
                refine AllReadyH.cons rfl (fun K hK => ?_) AllReadyH.nil
                go_simp
                refine (code_r w gr st w34 HRd.out hsl).mono ?_; rintro e w35 ⟨u2, u3, rfl, hR2, hS3, hr, hk⟩; obtain ⟨m2, B2, d2', e2⟩ : ∃ n A c, u2 = .slice A n c := (by obtain ⟨A, c, h⟩ := Kd.R_slice hR2; exact ⟨_, A, c, h⟩); subst e2; obtain ⟨m3, B3, d3', e3⟩ : ∃ n A c, u3 = .slice A n c := (by obtain ⟨A, c, h⟩ := Kd.S_slice hS3; exact ⟨_, A, c, h⟩); subst e3; have HI5 := Lib.hid (HId.out.keep (s1 := rCode st) hk hr); have HS5 := Lib.hid (S_split HId.out.2.2.2.2.2 hk); have HQ5 := Lib.hid (k53s_mkM (w := w35) (base := w.heap.size) (ok := fun k => w34.heap.size ≤ k ∧ k ≠ gr) (x := vCode st) (R_fresh hR2 HSz.out) (S_fresh hS3 HSz.out)); have HL5 := Lib.hid hk; clear hR2 hS3 hr hk; have y5 := (blk_cell HI5.out.2.2.2.1 1).trans rfl
                go_simp
                refine hK.out _ _ trivial (fun hHeld => ?_)
                clear hK K
                try simp only [Act.put, List.setIfInBounds_toArray, List.set_cons_zero, List.set_cons_succ]
                refine wpAnyH_ready (rs := [3]) (by kernel_rfl) (by simp) ?_
                refine AllReadyH.cons rfl (fun K hK => ?_) AllReadyH.nil
                go_simp
                refine hK.out _ _ trivial (fun hHeld => ?_)
                clear hK K
                try simp only [Act.put, List.setIfInBounds_toArray, List.set_cons_zero, List.set_cons_succ]
                rotate_left
                go_simp
                refine (code_r w gr st w34 HRd.out hsl).mono ?_; rintro e w35 ⟨u2, u3, rfl, hR2, hS3, hr, hk⟩; obtain ⟨m2, B2, d2', e2⟩ : ∃ n A c, u2 = .slice A n c := (by obtain ⟨A, c, h⟩ := Kd.R_slice hR2; exact ⟨_, A, c, h⟩); subst e2; obtain ⟨m3, B3, d3', e3⟩ : ∃ n A c, u3 = .slice A n c := (by obtain ⟨A, c, h⟩ := Kd.S_slice hS3; exact ⟨_, A, c, h⟩); subst e3; have HI5 := Lib.hid (HId.out.keep (s1 := rCode st) hk hr); have HS5 := Lib.hid (S_split HId.out.2.2.2.2.2 hk); have HQ5 := Lib.hid (k53s_mkM (w := w35) (base := w.heap.size) (ok := fun k => w34.heap.size ≤ k ∧ k ≠ gr) (x := vCode st) (R_fresh hR2 HSz.out) (S_fresh hS3 HSz.out)); have HL5 := Lib.hid hk; clear hR2 hS3 hr hk; have y5 := (blk_cell HI5.out.2.2.2.1 1).trans rfl
                go_simp
                refine hK.out _ _ trivial (fun hHeld => ?_)
                clear hK K
                try simp only [Act.put, List.setIfInBounds_toArray, List.set_cons_zero, List.set_cons_succ]
                refine wpAnyH_ready (rs := [1, 3]) (by kernel_rfl) (by simp) ?_
                refine AllReadyH.cons rfl (fun K hK => ?_) (AllReadyH.cons rfl (fun K hK => ?_) AllReadyH.nil)
                go_simp
                refine hK.out _ _ trivial (fun hHeld => ?_)
                clear hK K
                try simp only [Act.put, List.setIfInBounds_toArray, List.set_cons_zero, List.set_cons_succ]
                refine wpAnyH_ready (rs := [3]) (by kernel_rfl) (by simp) ?_
                refine AllReadyH.cons rfl (fun K hK => ?_) AllReadyH.nil
                go_simp
                refine hK.out _ _ trivial (fun hHeld => ?_)
                clear hK K
                try simp only [Act.put, List.setIfInBounds_toArray, List.set_cons_zero, List.set_cons_succ]
                rotate_left
                go_simp
                refine hK.out _ _ trivial (fun hHeld => ?_)
                clear hK K
                try simp only [Act.put, List.setIfInBounds_toArray, List.set_cons_zero, List.set_cons_succ]
                have y6 := (blk_cell (blk_below HI5.out.2.2.2.1 (below_alloc (Below.refl _ _) (.cells #[.int .i64 (vCode st).f0, .int .i64 (vCode st).f1, .slice B2 m2 d2', .slice B3 m3 d3'] 53))) 1).trans rfl
                refine wpAnyH_ready (rs := [1]) (by kernel_rfl) (by simp) ?_
                refine AllReadyH.cons rfl (fun K hK => ?_) AllReadyH.nil
                go_simp
                refine hK.out _ _ trivial (fun hHeld => ?_)
                clear hK K
                try simp only [Act.put, List.setIfInBounds_toArray, List.set_cons_zero, List.set_cons_succ]
                all_goals
                  refine wpAnyH_ready (rs := [4]) (by kernel_rfl) (by simp) ?_
                  refine AllReadyH.cons rfl (fun K hK => ?_) AllReadyH.nil
                  refine Kd.S_append_step k53s (w0 := w35) w.heap.size (by rfl) (.tmp 80) (.tmp 82) 28 53 (.agg #[.int .i64 0, .int .i64 0, .slice none 0 0, .slice none 0 0]) 64 rfl Try.underlying28 info53 rfl (by decide) (by omega) _ l1 (vCode st) [.int .i64 (vCode st).f0, .int .i64 (vCode st).f1, .slice B2 m2 d2', .slice B3 m3 d3'] (fun k => k ≠ gr) (fun k => w34.heap.size ≤ k ∧ k ≠ gr) rfl rfl HQ5.out (fun k h => ⟨h.2, fun e => by have := Kd.S_lt HId.out.2.2.2.2.2 k e.symm; omega⟩) (fun k hk => by have := HGz.out; have := HL5.out.1; omega) HS5.out (Below.refl _ _) (Nat.le_trans HSz.out HL5.out.1) (by omega) ?_
                  intro v9 w36 ho hb hg hat
                  obtain ⟨n9, A9, c9, e9⟩ : ∃ n A c, v9 = .slice A n c := by obtain ⟨A, c, h⟩ := Kd.S_slice ho; exact ⟨_, A, c, h⟩
                  subst e9
                  have HI6 := Lib.hid (HI5.out.codes HG5.out.1 HG5.out.2 hb hg ho)
                  have hY := (hg.block g5 (blk_lt HI5.out.2.2.2.1) (Kd.S_ne HI5.out.2.2.2.2.2 HI5.out.2.2.2.1 (by decide))).trans HI5.out.2.2.2.1
                  have z16 := (blk_cell hY 1).trans rfl
                  have f16 := blk_frozen hY 1
                  clear ho hb hg hat hY
                  refine hK.out _ _ trivial (fun hHeld => ?_)
                  clear hK K
                  try simp only [Act.put, List.setIfInBounds_toArray, List.set_cons_zero, List.set_cons_succ]
                  refine wpAnyH_ready (rs := [5]) (by kernel_rfl) (by simp) ?_
                  refine AllReadyH.cons rfl (fun K hK => ?_) AllReadyH.nil
                  go_simp
                  refine hK.out _ _ trivial (fun hHeld => ?_)
                  clear hK K
                  try simp only [Act.put, List.setIfInBounds_toArray, List.set_cons_zero, List.set_cons_succ]
                  refine wpAnyH_ready (rs := [6]) (by kernel_rfl) (by simp) ?_
                  refine AllReadyH.cons rfl (fun K hK => ?_) AllReadyH.nil
                  go_simp
                  refine hK.out _ _ trivial (fun hHeld => ?_)
                  clear hK K
                  try simp only [Act.put, List.setIfInBounds_toArray, List.set_cons_zero, List.set_cons_succ]
                  refine wpAnyH_done (by kernel_rfl) ?_ _
                  go_wp2
                  refine ⟨⟨i + 1, l1 ++ [vCode st], rCode st, .slice A9 n9 c9, by go_num, Lib.hid (HM.out.next HBd.out (by omega) (rCode_len _) (rCode_or _)), HI6⟩, by simp [intOf]; omega⟩
              · have HE : Hid (l1 = vCodes (st0 bs) ∧ st = sCodes (st0 bs)) := Lib.hid (by
                  rw [HCs.out.1, HCs.out.2]
                  by_cases hb : st.2 = true
                  · exact HM.out.stop_bad hb
                  · exact HM.out.stop (fun h => hgo ⟨by omega, by simpa using hb⟩))
                have hex : (decide ((i : Int) < a1) = true ∧ st.2 = true) ∨ decide ((i : Int) < a1) = false := by
                  by_cases hlt : (i : Int) < a1
                  · by_cases hb : st.2 = true
                    · exact .inl ⟨decide_eq_true hlt, hb⟩
                    · exact absurd ⟨hlt, by simpa using hb⟩ hgo
                  · exact .inr (decide_eq_false hlt)
                clear hgo
                rw [HE.out.1, HE.out.2] at HI
                rcases hex with ⟨d2, hb⟩ | d2
                rw [hb] at z1
                all_goals
                  go_wp2
                  go_meet
                  case rel => exact ⟨v1, HI⟩
          case rest =>
            obtain ⟨v1, HI⟩ := hcut
            obtain ⟨lc, hlc'⟩ : ∃ lc, lc = vCodes (st0 bs) := ⟨_, rfl⟩
            rw [← hlc'] at HI
            have NLc := Lib.hid hlc'
            clear hlc' HCs N1
            obtain ⟨A1, q1, e1⟩ := Kd.S_slice HI.out.2.2.2.2.2
            subst e1
            obtain rfl : n0 = ls.length := (Kd.S_reads' HI.out.2.2.2.2.1).1
            have HZ0 := Lib.hid (Kd.S_reads' HI.out.2.2.2.2.1).2.2
            have HZ1 := Lib.hid (k53s_C (Kd.S_reads' HI.out.2.2.2.2.2).2.2)
            have HX2 := Lib.hid HI.out.2.2.1
            have HX5 := Lib.hid HI.out.2.2.2.1
            have HB := Lib.hid HI.out.2.1.2.1
            have HCw := Lib.hid (Kd.C_below HC.out HB.out)
            obtain ⟨A3, c3, hb⟩ := HI.out.2.1.has
            have z1 : wc.cell? ⟨gr, 1, none⟩ = some (.bool (sCodes (st0 bs)).2) := (blk_cell hb 1).trans rfl
            clear hb
            by_cases hbad : (sCodes (st0 bs)).2 = true
            · rw [hbad] at z1
              have hno : ¬ Goes bs := fun h => by rw [h.2.2.1] at hbad; exact absurd hbad (by decide)
              clear hbad
              have z0 := (blk_cell HX2.out 0).trans rfl
              have z3 := (blk_cell HX2.out 1).trans rfl
              have z4 := (blk_cell HX2.out 2).trans rfl
              have f0 := blk_frozen HX2.out 0
              have f1 := blk_frozen HX2.out 1
              have f2 := blk_frozen HX2.out 2
              go_wp2
              generalize hW : World.setCell _ _ _ = wz
              obtain ⟨hb, hX⟩ := three_set HB.out hg2 HX2.out (.slice none 0 0) (.slice none 0 0) (.int .i64 0)
              rw [hW] at hb hX
              (try simp only [Exit.inBlock, Exit.then])
              refine bodyPost_ret (results_cell_row_tmp rfl _ _ g2 30 _ (0, 0) _ rfl hX Try.underlying30 rfl (by kernel_rfl)) rfl ?_
              exact ReadI.no hb hno
            · replace hbad : (sCodes (st0 bs)).2 = false := by simpa using hbad
              rw [hbad] at z1
              have HBad := Lib.hid hbad
              clear hbad
              have HSz : Hid ((imgB ls lc a2).length ≤ 1099511627) := Lib.hid (by
                rw [NLs.out, NLc.out, N2'.out]
                have h := img_size (st0 bs) HBad.out
                have h2 : (st0 bs).1.length ≤ bs.length := by show (bs.drop 2).length ≤ _; rw [List.length_drop]; omega
                omega)
              have HLn : Hid (2 < (imgB ls lc a2).length) := Lib.hid (by simp only [imgB, headB, List.length_append, putB_len, List.length_cons, List.length_nil]; omega)
              have y0 := (blk_cell HX5.out 0).trans rfl
              have y1 := (blk_cell HX5.out 1).trans rfl
              have y2 := (blk_cell HX5.out 2).trans rfl
              have hu30 := Try.underlying30
              by_cases hok : ImgOk ls lc a2
              · by_cases heq : sameB (imgB ls lc a2) bs = true
                · have HQ : Hid (((strOfNums (imgB ls lc a2)).toList == (strOfNums bs).toList) = true) := Lib.hid heq
                  have HGo : Hid (Goes bs) := Lib.hid ⟨by omega, hpre, HBad.out, by rw [← NLs.out, ← NLc.out, ← N2'.out]; exact hok, by rw [← NLs.out, ← NLc.out, ← N2'.out]; exact heq⟩
                  clear heq
                  go_wp2_with (first
                    | (go_at_call 9; refine (image_c A0 q0 ls A1 q1 lc a2 _ HZ0.out HZ1.out HSz.out).mono ?_; rintro e w7 ⟨b, rfl, hbi, hb⟩; have hbb : b = true := hbi.2 hok; subst hbb; have HB7 := Lib.hid hb; clear hbi hb y0 y1 y2)
                    | (go_at_call 31; refine (bytes_c g5 ls lc a2 w7 (by have := len0 HSz.out; omega) (by have := len1 HSz.out; omega) ⟨A0, q0, A1, q1, blk_below HX5.out HB7.out, Kd.C_below HZ0.out HB7.out, Kd.C_below HZ1.out HB7.out⟩ HSz.out).mono ?_; rintro e w8 ⟨v, rfl, hO, hb⟩; have hR := hO.long HLn.out; obtain ⟨Av, cv, rfl⟩ := Kd.R_slice hR; have HO := Lib.hid (Kd.R_reads' hR); have HB8 := Lib.hid (below_step HB7.out hb); clear hO hb hR)
                    | (go_at_call 42; refine (bytes_Equal.calls Av cv (imgB ls lc a2) A c bs _ w8 HO.out.2.2 HO.out.2.1 (Kd.C_below HCw.out HB8.out) hc rfl).mono ?_; rintro e w9 ⟨rfl, hk⟩; have HB9 := Lib.hid (below_step HB8.out hk.below); clear hk; rw [HQ.out]; have HX9 := Lib.hid (blk_below HX2.out HB9.out); have z0 := (blk_cell HX9.out 0).trans rfl; have z3 := (blk_cell HX9.out 1).trans rfl; have z4 := (blk_cell HX9.out 2).trans rfl; have f0 := blk_frozen HX9.out 0; have f1 := blk_frozen HX9.out 1; have f2 := blk_frozen HX9.out 2; have HX59 := Lib.hid (blk_below HX5.out HB9.out); have y0 := (blk_cell HX59.out 0).trans rfl; have y1 := (blk_cell HX59.out 1).trans rfl; have y2 := (blk_cell HX59.out 2).trans rfl))
                  generalize hW : World.setCell _ _ _ = wz
                  obtain ⟨hb, hX⟩ := three_set (below_step HB.out HB9.out) hg2 HX9.out (.slice A0 ls.length q0) (.slice A1 lc.length q1) (.int .i64 a2)
                  have t0 := three_S (Kd.S_below HI.out.2.2.2.2.1 HB9.out) HX9.out (by decide) (.slice A0 ls.length q0) (.slice A1 lc.length q1) (.int .i64 a2)
                  have t1 := three_S (Kd.S_below HI.out.2.2.2.2.2 HB9.out) HX9.out (by decide) (.slice A0 ls.length q0) (.slice A1 lc.length q1) (.int .i64 a2)
                  rw [hW] at hb hX t0 t1
                  (try simp only [Exit.inBlock, Exit.then])
                  refine bodyPost_ret (results_cell_row_tmp rfl _ _ g2 30 _ (0, 0) _ rfl hX Try.underlying30 rfl (by kernel_rfl)) rfl ?_
                  exact ⟨true, _, _, ls, lc, a2, rfl, Kd.S_mono t0 (fun _ _ => trivial), Kd.S_mono t1 (fun _ _ => trivial), hb, ⟨fun _ => HGo.out, fun _ => rfl⟩, by rw [if_pos rfl]; exact ⟨NLs.out, NLc.out, N2'.out⟩⟩
                · have heq' : sameB (imgB ls lc a2) bs = false := by simpa using heq
                  have HQ : Hid (((strOfNums (imgB ls lc a2)).toList == (strOfNums bs).toList) = false) := Lib.hid heq'
                  have hno : ¬ Goes bs := fun h => heq (by rw [NLs.out, NLc.out, N2'.out]; exact h.2.2.2.2)
                  clear heq heq'
                  go_wp2_with (first
                    | (go_at_call 9; refine (image_c A0 q0 ls A1 q1 lc a2 _ HZ0.out HZ1.out HSz.out).mono ?_; rintro e w7 ⟨b, rfl, hbi, hb⟩; have hbb : b = true := hbi.2 hok; subst hbb; have HB7 := Lib.hid hb; clear hbi hb y0 y1 y2)
                    | (go_at_call 31; refine (bytes_c g5 ls lc a2 w7 (by have := len0 HSz.out; omega) (by have := len1 HSz.out; omega) ⟨A0, q0, A1, q1, blk_below HX5.out HB7.out, Kd.C_below HZ0.out HB7.out, Kd.C_below HZ1.out HB7.out⟩ HSz.out).mono ?_; rintro e w8 ⟨v, rfl, hO, hb⟩; have hR := hO.long HLn.out; obtain ⟨Av, cv, rfl⟩ := Kd.R_slice hR; have HO := Lib.hid (Kd.R_reads' hR); have HB8 := Lib.hid (below_step HB7.out hb); clear hO hb hR)
                    | (go_at_call 42; refine (bytes_Equal.calls Av cv (imgB ls lc a2) A c bs _ w8 HO.out.2.2 HO.out.2.1 (Kd.C_below HCw.out HB8.out) hc rfl).mono ?_; rintro e w9 ⟨rfl, hk⟩; have HB9 := Lib.hid (below_step HB8.out hk.below); clear hk; rw [HQ.out]; have HX9 := Lib.hid (blk_below HX2.out HB9.out); have z0 := (blk_cell HX9.out 0).trans rfl; have z3 := (blk_cell HX9.out 1).trans rfl; have z4 := (blk_cell HX9.out 2).trans rfl; have f0 := blk_frozen HX9.out 0; have f1 := blk_frozen HX9.out 1; have f2 := blk_frozen HX9.out 2))
                  generalize hW : World.setCell _ _ _ = wz
                  obtain ⟨hb, hX⟩ := three_set (below_step HB.out HB9.out) hg2 HX9.out (.slice none 0 0) (.slice none 0 0) (.int .i64 0)
                  rw [hW] at hb hX
                  (try simp only [Exit.inBlock, Exit.then])
                  refine bodyPost_ret (results_cell_row_tmp rfl _ _ g2 30 _ (0, 0) _ rfl hX Try.underlying30 rfl (by kernel_rfl)) rfl ?_
                  exact ReadI.no hb hno
              · have hno : ¬ Goes bs := fun h => hok (by rw [NLs.out, NLc.out, N2'.out]; exact h.2.2.2.1)
                go_wp2_with (go_at_call 9; refine (image_c A0 q0 ls A1 q1 lc a2 _ HZ0.out HZ1.out HSz.out).mono ?_; rintro e w7 ⟨b, rfl, hbi, hb⟩; have hbb : b = false := (by cases b; (· rfl); (· exact absurd (hbi.1 rfl) hok)); subst hbb; have HB7 := Lib.hid hb; clear hbi hb y0 y1 y2; have HX7 := Lib.hid (blk_below HX2.out HB7.out); have z0 := (blk_cell HX7.out 0).trans rfl; have z3 := (blk_cell HX7.out 1).trans rfl; have z4 := (blk_cell HX7.out 2).trans rfl; have f0 := blk_frozen HX7.out 0; have f1 := blk_frozen HX7.out 1; have f2 := blk_frozen HX7.out 2)
                generalize hW : World.setCell _ _ _ = wz
                obtain ⟨hb, hX⟩ := three_set (below_step HB.out HB7.out) hg2 HX7.out (.slice none 0 0) (.slice none 0 0) (.int .i64 0)
                rw [hW] at hb hX
                (try simp only [Exit.inBlock, Exit.then])
                refine bodyPost_ret (results_cell_row_tmp rfl _ _ g2 30 _ (0, 0) _ rfl hX Try.underlying30 rfl (by kernel_rfl)) rfl ?_
                exact ReadI.no hb hno
    · have HP : Hid ((decide (([71, 73] : List Int).length ≤ bs.length) && ((strOfNums (bs.take ([71, 73] : List Int).length)).toList == (strOfNums [71, 73]).toList)) = false) := Lib.hid (by cases h : preOk bs; (· exact h); (· exact absurd h hpre))
      go_upto_region 2 with (go_at_call 38; refine (prefix_c A c bs (some ⟨w2.heap.size, 0, none⟩) 2 [71, 73] _ HC3.out hc (gi_Cs w2) (by decide)).mono ?_; rintro e w3 ⟨rfl, hk⟩; rw [HP.out]; have HB3 := Lib.hid hk; clear hk)
      have HB4 : Hid (Below w.heap.size w w3) := Lib.hid (below_step (below_alloc HB2.out _) HB3.out.below)
      have HX3 := Lib.hid (blk_below (blk_below HX2.out (below_alloc (Below.refl _ _) (.cells #[.int .u8 71, .int .u8 73] 5 (2, 3)))) HB3.out.below)
      have z0 := (blk_cell HX3.out 0).trans rfl
      have z1 := (blk_cell HX3.out 1).trans rfl
      have z2 := (blk_cell HX3.out 2).trans rfl
      have f0 := blk_frozen HX3.out 0
      have f1 := blk_frozen HX3.out 1
      have f2 := blk_frozen HX3.out 2
      have hno : ¬ Goes bs := fun h => hpre h.2.1
      clear HP HB2 HX2 HC2 HC3 HB3
      go_wp2
      generalize hW : World.setCell _ _ _ = w5
      obtain ⟨hb, hX⟩ := three_set HB4.out (Nat.le_of_eq HG2.out.symm) HX3.out (.slice none 0 0) (.slice none 0 0) (.int .i64 0)
      rw [hW] at hb hX
      (try simp only [Exit.inBlock, Exit.then])
      refine bodyPost_ret (results_cell_row_tmp rfl _ _ g2 30 _ (0, 0) _ rfl hX Try.underlying30 rfl (by kernel_rfl)) rfl ?_
      exact ReadI.no hb hno

end Go.Proofs.Ytkfeoilnhpfknaa.ImFnExactImageRead
