/- The walk of the law FnExactImageRead. -/
import Derived.Test.YtkfeoilnhpfknaaLwrFnExactImageRead
namespace Go.Proofs.Ytkfeoilnhpfknaa.ImFnExactImageRead
open Go.RowKit Go.Proofs.Ytkfeoilnhpfknaa.QFnExactImageRead Go.Proofs.YtkfeoilnhpfknaaW.PrintWords Go.Proofs.YtkfeoilnhpfknaaW.PrintLast
open Go.Proofs.Ytkfeoilnhpfknaa.ImgRFnExactImageRead (Shorts)
open Go.Proofs.Ytkfeoilnhpfknaa.MkpFnExactImageRead (cnt mS mC cC mk_len)
attribute [local go_sem ↓] Go.wp_at_zero Go.wp_at_succ
set_option linter.unusedVariables false
set_option linter.unusedSimpArgs false

set_option maxHeartbeats 40000000 in
set_option maxRecDepth 100000 in
theorem law_c (A : Option Addr) (c : Nat) (bs : List Int) (W : World) (hC : Kd.C (Kd.int .u8) W A bs.length bs) (hc : bs.length ≤ c) (hb : Byt bs) :
    Calls Try.prog 5 #[.slice A bs.length c] W (fun e w' => e = .returned (.bool true) ∧ Below W.heap.size W w') := by
  have HC := Lib.hid hC
  have HY := Lib.hid hb
  clear hC hb
  by_cases hbig : (1048576 : Int) < (bs.length : Int)
  · have d1 : decide ((1048576 : Int) < (bs.length : Int)) = true := decide_eq_true hbig
    go_enter Try.func5, Try.ntmps5
    go_wp2
    go_ret
    exact ⟨rfl, Below.refl _ _⟩
  have d1 : decide ((1048576 : Int) < (bs.length : Int)) = false := decide_eq_false hbig
  have hl : bs.length ≤ 1048576 := by omega
  have hl2 : bs.length ≤ 1099511627 := by omega
  have hu30 := Try.underlying30
  go_enter Try.func5, Try.ntmps5
  go_upto_region 4 with (first
    | (go_at_call 18; refine (toB_c A c bs W hl HC.out hc).mono ?_; rintro e w1 ⟨V1, m1, rfl, hm, hR, hb⟩; have HR1 := Lib.hid hR; have HM1 := Lib.hid hm; have HB1 := Lib.hid hb; clear hR hb hm)
    | (go_at_call 17; refine (sread_c V1 m1 bs w1 (Kd.R_reads' HR1.out).2.2 HM1.out hl2 HY.out).mono ?_; rintro e w2 ⟨ok, v0, v1, l0, l1, a2, rfl, h0, h1, hb, ha1, ha2⟩; have HA := Lib.hid (show Ans bs ok l0 l1 a2 from ⟨ha1, ha2⟩); obtain ⟨A0, q0, rfl⟩ := Kd.R_slice h0; obtain ⟨A1, q1, rfl⟩ := Kd.R_slice h1; have H0 := Lib.hid h0; have H1 := Lib.hid h1; have HB2 := Lib.hid hb; clear h0 h1 hb ha1 ha2)
    | ((with_reducible refine gate_dst (N := 3) rfl ?_); refine box_event ?hg (N := 3) ?hd (cs := #[.slice none 0 0, .slice none 0 0, .int .i64 0]) (t := 30) ?hr ?_; (case hd => rfl); (case hg => rfl); (case hr => first | (go_simp; done) | (go_simp; rfl)); intro g3 hg w3 hbox hb; have HG3 := Lib.hid hg; have HX3 := Lib.hid hbox; have HB3 := Lib.hid hb; have z0 := (blk_cell hbox 0).trans rfl; have z1 := (blk_cell hbox 1).trans rfl; have z2 := (blk_cell hbox 2).trans rfl; have n0 := blk_frozen hbox 0; have n1 := blk_frozen hbox 1; have n2 := blk_frozen hbox 2; clear hbox hb hg))
  generalize hW : World.setCell _ _ _ = w4
  have HSt : Hid (St W g3 w4.heap.size A0 q0 A1 q1 l0 l1 a2 w4) := Lib.hid (by
    have hb2 := below_step HB1.out HB2.out
    have hg3 : W.heap.size ≤ g3 := by rw [HG3.out]; exact hb2.size
    obtain ⟨hb, hX⟩ := three_set (below_step hb2 HB3.out) hg3 HX3.out (.slice A0 l0.length q0) (.slice A1 l1.length q1) (.int .i64 a2)
    have t0 := Kd.R_set (Kd.R_set (Kd.R_set (Kd.R_below H0.out HB3.out) HX3.out (by decide) 0 (.slice A0 l0.length q0)) (blk_set HX3.out 0 (.slice A0 l0.length q0)) (by decide) 1 (.slice A1 l1.length q1)) (blk_set (blk_set HX3.out 0 (.slice A0 l0.length q0)) 1 (.slice A1 l1.length q1)) (by decide) 2 (.int .i64 a2)
    have t1 := Kd.R_set (Kd.R_set (Kd.R_set (Kd.R_below H1.out HB3.out) HX3.out (by decide) 0 (.slice A0 l0.length q0)) (blk_set HX3.out 0 (.slice A0 l0.length q0)) (by decide) 1 (.slice A1 l1.length q1)) (blk_set (blk_set HX3.out 0 (.slice A0 l0.length q0)) 1 (.slice A1 l1.length q1)) (by decide) 2 (.int .i64 a2)
    rw [hW] at hb hX t0 t1
    exact ⟨hb, hg3, blk_lt hX, Nat.le_refl _, hX, Kd.R_lower (Kd.R_mono (Kd.R_bound t0) (fun k hk => hk.2.2.1)) HB1.out.size, Kd.R_lower (Kd.R_mono (Kd.R_bound t1) (fun k hk => hk.2.2.1)) HB1.out.size⟩)
  obtain ⟨s1, hs1⟩ : ∃ s1, s1 = w4.heap.size := ⟨_, rfl⟩
  rw [← hs1] at HSt
  have HS1 := Lib.hid hs1
  have HSh := Lib.hid (HA.out.short HY.out)
  clear hs1 hW HR1 HM1 HB1 H0 H1 HB2 HG3 HX3 HB3 z0 z1 z2 n0 n1 n2 d1
  go_upto_region 6 with (first
    | (go_at_call 18; refine (toB_c A c bs w4 hl (Kd.C_below HC.out HSt.out.1) hc).mono ?_; rintro e w5 ⟨Vx, mx, rfl, hm, hR, hb⟩; have HMx := Lib.hid hm; have HRx := Lib.hid hR; have HB5 := Lib.hid hb; have HSt5 := Lib.hid (HSt.out.below hb); clear hR hb hm)
    | (go_at_call 19; refine (read_c Vx mx bs w5 (Kd.R_reads' HRx.out).2.2 HMx.out hl2).mono ?_; rintro e w6 ⟨ok', u0, u1, k0, k1, b2, rfl, h0, h1, hb, ha1, ha2⟩; obtain ⟨ea, eb, ec, ed⟩ := HA.out.one (Ans.of_read HY.out ha1 ha2); subst ea eb ec ed; obtain ⟨E0, f0, rfl⟩ := Kd.S_slice h0; obtain ⟨E1, f1, rfl⟩ := Kd.S_slice h1; have H0 := Lib.hid h0; have H1 := Lib.hid h1; have HB6 := Lib.hid hb; have HSt6 := Lib.hid (HSt5.out.below hb); clear h0 h1 hb ha1 ha2)
    | ((with_reducible refine gate_dst (N := 6) rfl ?_); refine box_event ?hg (N := 6) ?hd (cs := #[.slice none 0 0, .slice none 0 0, .int .i64 0]) (t := 30) ?hr ?_; (case hd => rfl); (case hg => rfl); (case hr => first | (go_simp; done) | (go_simp; rfl)); intro g6 hg w7 hbox hb; have HG6 := Lib.hid hg; have HX6 := Lib.hid hbox; have HB7 := Lib.hid hb; have HSt7 := Lib.hid (HSt6.out.below hb); have z0 := (blk_cell hbox 0).trans rfl; have z1 := (blk_cell hbox 1).trans rfl; have z2 := (blk_cell hbox 2).trans rfl; have n0 := blk_frozen hbox 0; have n1 := blk_frozen hbox 1; have n2 := blk_frozen hbox 2; clear hbox hb hg))
  generalize hW : World.setCell _ _ _ = w8
  have hs12 : s1 ≤ w5.heap.size := by rw [HS1.out]; exact HB5.out.size
  have hs23 : w5.heap.size ≤ w6.heap.size := HB6.out.size
  have HSt8 : Hid (St W g3 s1 A0 q0 A1 q1 k0 k1 b2 w8) := Lib.hid (by
    rw [← hW]
    have hg : s1 ≤ g6 := by rw [HG6.out]; omega
    have hgw : W.heap.size ≤ g6 := by have := HSt7.out.2.1; have := HSt7.out.2.2.1; omega
    exact HSt7.out.kept (below_set (below_set (below_set HSt7.out.1 hgw) hgw) hgw) (kept3 _ _ _ _ _) (fun k hk => by rw [hk]; exact hg))
  have HGm8 : Hid (Gm w5.heap.size w6.heap.size g6 E0 f0 E1 f1 k0 k1 b2 w8) := Lib.hid (by rw [← hW]; exact Gm.made H0.out H1.out HB7.out HX6.out HG6.out)
  have HXb8 : Hid (Xb W s1 w5.heap.size Vx mx bs w8) := Lib.hid (by
    have h5 : Xb W s1 w5.heap.size Vx mx bs w5 := ⟨Kd.R_tight rfl (Kd.R_lower HRx.out HSt.out.1.size), fun k hk => ⟨by rw [HS1.out]; exact Kd.R_base HRx.out k hk.symm, Kd.R_lt HRx.out k hk.symm⟩⟩
    rw [← hW]
    exact ((h5.below HB6.out).below HB7.out).kept (kept3 _ _ _ _ _) (fun k hk => by rw [hk, HG6.out]; exact hs23))
  obtain ⟨s2, hs2⟩ : ∃ s2, s2 = w5.heap.size := ⟨_, rfl⟩
  obtain ⟨s3, hs3⟩ : ∃ s3, s3 = w6.heap.size := ⟨_, rfl⟩
  rw [← hs2] at HGm8 HXb8 hs12 hs23
  rw [← hs3] at HGm8 hs23
  clear hW hs2 hs3 HS1 HMx HRx HB5 HSt HSt5 HSt6 HB6 HG6 HX6 HB7 HSt7 H0 H1 z0 z1 z2 n0 n1 n2
  obtain ⟨y0, y1, y2⟩ := HSt8.out.cells
  obtain ⟨z0, z1, z2⟩ := cells3 HGm8.out.1
  have d2 : (ok' != ok') = false := bne_self_eq_false _
  go_upto_region 8 with (go_at_call 10; refine (HGm8.out.eq HSt8.out HSh.out).mono ?_; rintro e w9 ⟨rfl, hb⟩; have HSt9 := Lib.hid (HSt8.out.below hb); have HGm9 := Lib.hid (HGm8.out.below hb); have HXb9 := Lib.hid (HXb8.out.below hb); clear hb)
  clear y0 y1 y2 z0 z1 z2 HSt8 HGm8 HXb8
  have hl3 : bs.length ≤ 1099511627776 := by omega
  go_upto_region 11 with (first
    | (go_at_call 18; refine (toB_c A c bs w9 hl (Kd.C_below HC.out HSt9.out.1) hc).mono ?_; rintro e w10 ⟨Vy, my, rfl, hm, hR, hb⟩; have HMy := Lib.hid hm; have HRy := Lib.hid hR; have HSt10 := Lib.hid (HSt9.out.below hb); have HGm10 := Lib.hid (HGm9.out.below hb); have HXb10 := Lib.hid (HXb9.out.below hb); clear hR hb hm)
    | (go_at_call 13; refine (eqB2_c Vx mx Vy my bs w10 hl3 (Kd.R_reads' HXb10.out.1).2.2 (Kd.R_reads' HXb10.out.1).2.1 (Kd.R_reads' HRy.out).2.2 HMy.out).mono ?_; rintro e w11 ⟨rfl, hb⟩; have HSt11 := Lib.hid (HSt10.out.below hb); have HGm11 := Lib.hid (HGm10.out.below hb); have HXb11 := Lib.hid (HXb10.out.below hb); clear hb))
  clear HSt9 HGm9 HXb9 HSt10 HGm10 HXb10 HMy HRy
  go_upto_region 12 with (go_at_call 15; refine (markBy_c W w11 (.slice Vx bs.length mx) bs HSt11.out.1 HXb11.out.1 hl).mono ?_; rintro e w12 ⟨rfl, hb, hk⟩; have HSt12 := Lib.hid (HSt11.out.kept hb hk (fun k h => (HXb11.out.2 k h).1)); have HGm12 := Lib.hid (HGm11.out.kept hs23 hk (fun k h => (HXb11.out.2 k h).2)); clear hb hk)
  clear HSt11 HGm11 HXb11
  have d3 : decide ((1 : Int) + bs.length < 0) = false := decide_eq_false (by omega)
  obtain ⟨y0, y1, y2⟩ := HSt12.out.cells
  obtain ⟨z0, z1, z2⟩ := cells3 HGm12.out.1
  go_upto_region 14 with (go_at_call 10; refine (HGm12.out.eq HSt12.out HSh.out).mono ?_; rintro e w13 ⟨rfl, hb⟩; have HSt13 := Lib.hid (HSt12.out.below hb); have HGm13 := Lib.hid (HGm12.out.below hb); clear hb)
  clear y0 y1 y2 z0 z1 z2 HSt12 HGm12 d3
  obtain ⟨z0, z1, z2⟩ := cells3 HGm13.out.1
  obtain ⟨Q, hQ⟩ : ∃ Q : Int, Q = 1 + cnt List.length k0 + cnt cC k1 := ⟨_, rfl⟩
  have HM := Lib.hid (HGm13.out.mark HSt13.out hs12 HSh.out)
  have HHd := Lib.hid (fun (cur : World) (h : Gk W s2 g6 E0 k0.length f0 E1 k1.length f1 (mS 1 k0) (mC (1 + cnt List.length k0) k1) b2 cur) => h.held HSh.out)
  rw [← hQ] at HM HHd
  have hq0 : 0 ≤ Q := by omega
  have d4 : decide (Q < 0) = false := decide_eq_false (by omega)
  have d5 : (Q != Q) = false := bne_self_eq_false _
  clear hQ
  go_upto_region 16 with (go_at_call 14; refine HM.out.mono ?_; rintro e w14 ⟨rfl, hs, hg⟩; have HSt14 := Lib.hid hs; have HGk14 := Lib.hid hg; clear hs hg)
  clear z0 z1 z2 HSt13 HGm13 HM
  obtain ⟨z0, z1, z2⟩ := cells3 HGk14.out.1
  go_upto_region 22 with (go_at_call 20; refine (HHd.out w14 HGk14.out).mono ?_; rintro e w15 ⟨rfl, hb⟩; have HSt15 := Lib.hid (HSt14.out.below hb); have HGk15 := Lib.hid (HGk14.out.below hb); clear hb)
  clear z0 z1 z2 HSt14 HGk14
  go_upto_region 23 with (first
    | (go_at_call 18; refine (toB_c A c bs w15 hl (Kd.C_below HC.out HSt15.out.1) hc).mono ?_; rintro e w16 ⟨Vz, mz, rfl, hm, hR, hb⟩; have HMz := Lib.hid hm; have HRz := Lib.hid hR; have HSt16 := Lib.hid (HSt15.out.below hb); have HGk16 := Lib.hid (HGk15.out.below hb); clear hR hb hm)
    | (go_at_call 19; refine (read_c Vz mz bs w16 (Kd.R_reads' HRz.out).2.2 HMz.out hl2).mono ?_; rintro e w17 ⟨ok2, u0, u1, j0, j1, c2, rfl, h0, h1, hb, ha1, ha2⟩; obtain ⟨ea, eb, ec, ed⟩ := HA.out.one (Ans.of_read HY.out ha1 ha2); subst ea eb ec ed; obtain ⟨F0, t0, rfl⟩ := Kd.S_slice h0; obtain ⟨F1, t1, rfl⟩ := Kd.S_slice h1; have H0 := Lib.hid h0; have H1 := Lib.hid h1; have HSt17 := Lib.hid (HSt16.out.below hb); have HGk17 := Lib.hid (HGk16.out.below hb); clear h0 h1 hb ha1 ha2)
    | ((with_reducible refine gate_dst (N := 11) rfl ?_); refine box_event ?hg (N := 11) ?hd (cs := #[.slice none 0 0, .slice none 0 0, .int .i64 0]) (t := 30) ?hr ?_; (case hd => rfl); (case hg => rfl); (case hr => first | (go_simp; done) | (go_simp; rfl)); intro gz hg w18 hbox hb; have HGz := Lib.hid hg; have HXz := Lib.hid hbox; have HB18 := Lib.hid hb; have HSt18 := Lib.hid (HSt17.out.below hb); have HGk18 := Lib.hid (HGk17.out.below hb); have z0 := (blk_cell hbox 0).trans rfl; have z1 := (blk_cell hbox 1).trans rfl; have z2 := (blk_cell hbox 2).trans rfl; have n0 := blk_frozen hbox 0; have n1 := blk_frozen hbox 1; have n2 := blk_frozen hbox 2; clear hbox hb hg))
  generalize hW : World.setCell _ _ _ = w19
  have HSt19 : Hid (St W g3 s1 A0 q0 A1 q1 j0 j1 c2 w19) := Lib.hid (by
    rw [← hW]
    have hg : s1 ≤ gz := by rw [HGz.out]; exact HSt17.out.2.2.2.1
    have hgw : W.heap.size ≤ gz := by have := HSt18.out.2.1; have := HSt18.out.2.2.1; omega
    exact HSt18.out.kept (below_set (below_set (below_set HSt18.out.1 hgw) hgw) hgw) (kept3 _ _ _ _ _) (fun k hk => by rw [hk]; exact hg))
  have HGk19 : Hid (Gk W s2 g6 E0 j0.length f0 E1 j1.length f1 (mS 1 j0) (mC (1 + cnt List.length j0) j1) c2 w19) := Lib.hid (by
    rw [← hW]
    exact HGk18.out.set3 HXz.out (by rw [HGz.out]; exact Nat.ne_of_lt (blk_lt HGk17.out.1)) _ _ _)
  have HGz19 : Hid (Gm w16.heap.size w17.heap.size gz F0 t0 F1 t1 j0 j1 c2 w19) := Lib.hid (by rw [← hW]; exact Gm.made H0.out H1.out HB18.out HXz.out HGz.out)
  clear hW HSt16 HGk16 HSt17 HGk17 HSt18 HGk18 HSt15 HGk15 HMz HRz HGz HXz HB18 H0 H1 z0 z1 z2 n0 n1 n2
  obtain ⟨y0, y1, y2⟩ := HSt19.out.cells
  obtain ⟨z0, z1, z2⟩ := cells3 HGz19.out.1
  go_upto_region 25 with (go_at_call 10; refine (HGz19.out.eq HSt19.out HSh.out).mono ?_; rintro e w20 ⟨rfl, hb⟩; have HSt20 := Lib.hid (HSt19.out.below hb); have HGk20 := Lib.hid (HGk19.out.below hb); clear hb)
  clear y0 y1 y2 z0 z1 z2 HSt19 HGz19 HGk19
  obtain ⟨z0, z1, z2⟩ := cells3 HGk20.out.1
  go_wp2_with (go_at_call 20; refine (HHd.out w20 HGk20.out).mono ?_; rintro e w21 ⟨rfl, hb⟩; have HSt21 := Lib.hid (HSt20.out.below hb); clear hb)
  go_ret
  exact ⟨rfl, HSt21.out.1⟩

theorem byt_of {bs : List Int} (h : ∀ x ∈ bs, (Lit.int .u8 x).wf = true) : Byt bs := fun x hx => by
  have h := h x hx
  simp only [Lit.wf, IntKind.min, IntKind.max, IntKind.signed, IntKind.bits, Bool.and_eq_true, decide_eq_true_eq, if_true, Bool.false_eq_true, if_false] at h
  omega

end Go.Proofs.Ytkfeoilnhpfknaa.ImFnExactImageRead
