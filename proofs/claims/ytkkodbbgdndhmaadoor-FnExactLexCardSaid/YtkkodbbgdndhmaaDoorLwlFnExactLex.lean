/- The walk of the law FnExactLex. -/
import Derived.Test.YtkkodbbgdndhmaaDoorLexHFnExactLex
namespace Go.Proofs.YtkkodbbgdndhmaaDoor.LxFnExactLex
open Go.RowKit Go.Proofs.YtkkodbbgdndhmaaDoor.QFnExactLex Go.Proofs.YtkkodbbgdndhmaaDoorW.PrintWords Go.Proofs.YtkkodbbgdndhmaaDoorW.PrintLast
open Go.Proofs.YtkkodbbgdndhmaaDoor.MkpFnExactLex (cnt mk)
set_option linter.unusedVariables false
set_option linter.unusedSimpArgs false

theorem toks_texts {ps : List TV} {r : List S34} (e : toks ps = r) (hs : ∀ t ∈ r, t.f3.length ≤ 6000) : ∀ p ∈ ps, p.1.f3.length ≤ 6000 := fun p hp => hs p.1 (by rw [← e]; exact List.mem_map_of_mem hp)
theorem cnt_small (ps : List TV) : (0 : Int) ≤ 1 + cnt cV ps := by omega

set_option maxHeartbeats 40000000 in
set_option maxRecDepth 100000 in
theorem law_c (A : Option Addr) (c : Nat) (bs : List Int) (W : World) (hC : Kd.C (Kd.int .u8) W A bs.length bs) (hc : bs.length ≤ c) (hb : Byt bs) (hL : LW W) :
    Calls Tryd.prog 3 #[.slice A bs.length c] W (fun e w' => e = .returned (.bool true) ∧ Below W.heap.size W w') := by
  have HC := Lib.hid hC
  have HY := Lib.hid hb
  have HL := Lib.hid hL
  clear hC hb hL
  by_cases hbig : (1048576 : Int) < (bs.length : Int)
  · have d1 : decide ((1048576 : Int) < (bs.length : Int)) = true := decide_eq_true hbig
    go_enter Tryd.func3, Tryd.ntmps3
    go_wp2
    go_ret
    exact ⟨rfl, Below.refl _ _⟩
  have d1 : decide ((1048576 : Int) < (bs.length : Int)) = false := decide_eq_false hbig
  have hl : bs.length ≤ 1048576 := by omega
  have hl3 : bs.length ≤ 1099511627776 := by omega
  obtain ⟨r, q, hr⟩ := lexof_total bs
  have HLx := Lib.hid hr
  have HSh := Lib.hid hr.short
  clear hr
  go_enter Tryd.func3, Tryd.ntmps3
  go_upto_region 4 with (first
    | (go_at_call 5; refine (toB_c A c bs W hl HC.out hc).mono ?_; rintro e w1 ⟨V1, m1, rfl, hm, hR, hb⟩; have HR1 := Lib.hid hR; have HM1 := Lib.hid hm; have HB1 := Lib.hid hb; clear hR hb hm)
    | (go_at_call 4; refine (spec_c V1 m1 bs w1 (Kd.R_reads' HR1.out).2.2 HM1.out HY.out HLx.out).mono ?_; rintro e w2 ⟨V2, q2, rfl, hR, hb⟩; have HR2 := Lib.hid hR; have HB2 := Lib.hid hb; clear hR hb))
  have HSt : Hid (St W w2.heap.size V2 q2 r w2) := Lib.hid ⟨below_step HB1.out HB2.out, Nat.le_trans HB1.out.size HB2.out.size, Nat.le_refl _, Kd.R_lower (Kd.R_mono (Kd.R_bound HR2.out) (fun k hk => hk.2.2.1)) HB1.out.size⟩
  obtain ⟨s1, hs1⟩ : ∃ s1, s1 = w2.heap.size := ⟨_, rfl⟩
  rw [← hs1] at HSt
  have HS1 := Lib.hid hs1
  clear hs1 HR1 HM1 HB1 HR2 HB2 d1
  go_upto_region 6 with (first
    | (go_at_call 5; refine (toB_c A c bs w2 hl (Kd.C_below HC.out HSt.out.1) hc).mono ?_; rintro e w3 ⟨Vx, mx, rfl, hm, hR, hb⟩; have HMx := Lib.hid hm; have HRx := Lib.hid hR; have HB3 := Lib.hid hb; have HSt3 := Lib.hid (HSt.out.below hb); clear hR hb hm)
    | (go_at_call 6; refine (lex_c Vx mx bs w3 (Kd.R_reads' HRx.out).2.2 HMx.out hl HY.out (HL.out.below HSt3.out.1)).mono ?_; rintro e w4 ⟨v, ps, q', rfl, hT, hb, ho⟩; obtain ⟨et, eq⟩ := HLx.out.one HY.out ho; subst eq; have HTk := Lib.hid hT; have HEt := Lib.hid et; have HB4 := Lib.hid hb; have HSt4 := Lib.hid (HSt3.out.below hb); clear hT hb ho et))
  have hs12 : s1 ≤ w3.heap.size := by rw [HS1.out]; exact HB3.out.size
  have HXb : Hid (Txt w4 (.slice Vx bs.length mx) bs ∧ ∀ k, Own (.slice Vx bs.length mx) k → s1 ≤ k ∧ k < w3.heap.size) := Lib.hid ⟨(Txt.of_R HRx.out).below HB4.out, fun k hk => ⟨by rw [HS1.out]; exact Kd.R_base HRx.out k hk.symm, Kd.R_lt HRx.out k hk.symm⟩⟩
  obtain ⟨s2, hs2⟩ : ∃ s2, s2 = w3.heap.size := ⟨_, rfl⟩
  rw [← hs2] at HTk HXb hs12
  clear hs2 HS1 HMx HRx HB3 HSt HSt3 HB4
  have d2 : (q' != q') = false := bne_self_eq_false _
  go_upto_region 8 with (go_at_call 7; refine (eqS_c HSt4.out HTk.out HEt.out HSh.out.1 HSh.out.2).mono ?_; rintro e w5 ⟨rfl, hb⟩; have HSt5 := Lib.hid (HSt4.out.below hb); have HTk5 := Lib.hid (HTk.out.below hb); have HXb5 := Lib.hid (And.intro (HXb.out.1.below hb) HXb.out.2); clear hb)
  clear HSt4 HTk HXb
  go_upto_region 11 with (first
    | (go_at_call 5; refine (toB_c A c bs w5 hl (Kd.C_below HC.out HSt5.out.1) hc).mono ?_; rintro e w6 ⟨Vy, my, rfl, hm, hR, hb⟩; have HMy := Lib.hid hm; have HRy := Lib.hid hR; have HSt6 := Lib.hid (HSt5.out.below hb); have HTk6 := Lib.hid (HTk5.out.below hb); have HXb6 := Lib.hid (And.intro (HXb5.out.1.below hb) HXb5.out.2); clear hR hb hm)
    | (go_at_call 8; obtain ⟨hx1, hx2⟩ : bs.length ≤ mx ∧ Kd.C (Kd.int .u8) w6 Vx bs.length bs := (by obtain ⟨B, c', e, h1, h2⟩ := HXb6.out.1.reads; injection e with e1 _ e3; rw [e1, e3]; exact ⟨h1, h2⟩); refine (eqB_c Vx mx Vy my bs w6 hl3 hx2 hx1 (Kd.R_reads' HRy.out).2.2 HMy.out).mono ?_; rintro e w7 ⟨rfl, hb⟩; have HSt7 := Lib.hid (HSt6.out.below hb); have HTk7 := Lib.hid (HTk6.out.below hb); have HXb7 := Lib.hid (And.intro (HXb6.out.1.below hb) HXb6.out.2); clear hb hx1 hx2))
  clear HSt5 HTk5 HXb5 HSt6 HTk6 HXb6 HMy HRy
  go_upto_region 12 with (go_at_call 9; refine (markX_c s1 w7 (.slice Vx bs.length mx) bs 1 HXb7.out.1 (fun k hk => (HXb7.out.2 k hk).1) hl (by omega) (by omega)).mono ?_; rintro e w8 ⟨rfl, _, hb, hk⟩; have HSt8 := Lib.hid (HSt7.out.kept hb (Nat.le_refl _)); have HTk8 := Lib.hid (HTk7.out.kept (w' := w8) (fun k hk1 hlt => hk.2 k hlt (fun ho => by have := (HXb7.out.2 k ho).2; omega))); clear hb hk)
  clear HSt7 HTk7 HXb7
  have d3 : decide ((1 : Int) + bs.length < 0) = false := decide_eq_false (by omega)
  go_upto_region 14 with (go_at_call 7; refine (eqS_c HSt8.out HTk8.out HEt.out HSh.out.1 HSh.out.2).mono ?_; rintro e w9 ⟨rfl, hb⟩; have HSt9 := Lib.hid (HSt8.out.below hb); have HTk9 := Lib.hid (HTk8.out.below hb); clear hb)
  clear HSt8 HTk8 d3
  have hpl : ps.length ≤ 6000 := by have := HSh.out.1; rw [← HEt.out, toks_len] at this; exact this
  have HM := Lib.hid (markT_c s2 w9 v ps 1 HTk9.out hpl (toks_texts HEt.out HSh.out.2) (by omega) (by omega))
  have HHd := Lib.hid (fun (cur : World) (h : TokS cur s2 v (mk mV1 cV 1 ps)) => held_c h hpl (by rw [HEt.out]; exact HSh.out.2))
  obtain ⟨Q, hQ⟩ : ∃ Q : Int, Q = 1 + cnt cV ps := ⟨_, rfl⟩
  rw [← hQ] at HM HHd
  have hq0 : 0 ≤ Q := by omega
  have d4 : decide (Q < 0) = false := decide_eq_false (by omega)
  have d5 : (Q != Q) = false := bne_self_eq_false _
  clear hQ
  go_upto_region 16 with (go_at_call 10; refine HM.out.mono ?_; rintro e w10 ⟨rfl, hT, hb⟩; have HSt10 := Lib.hid (HSt9.out.kept hb hs12); have HTk10 := Lib.hid hT; clear hT hb)
  clear HSt9 HTk9 HM
  go_upto_region 22 with (go_at_call 11; refine (HHd.out w10 HTk10.out).mono ?_; rintro e w11 ⟨rfl, hb⟩; have HSt11 := Lib.hid (HSt10.out.below hb); have HTk11 := Lib.hid (HTk10.out.below hb); clear hb)
  clear HSt10 HTk10
  go_upto_region 23 with (first
    | (go_at_call 5; refine (toB_c A c bs w11 hl (Kd.C_below HC.out HSt11.out.1) hc).mono ?_; rintro e w12 ⟨Vz, mz, rfl, hm, hR, hb⟩; have HMz := Lib.hid hm; have HRz := Lib.hid hR; have HSt12 := Lib.hid (HSt11.out.below hb); have HTk12 := Lib.hid (HTk11.out.below hb); clear hR hb hm)
    | (go_at_call 6; refine (lex_c Vz mz bs w12 (Kd.R_reads' HRz.out).2.2 HMz.out hl HY.out (HL.out.below HSt12.out.1)).mono ?_; rintro e w13 ⟨v', ps', q'', rfl, hT, hb, ho⟩; obtain ⟨et, eq⟩ := HLx.out.one HY.out ho; subst eq; have HTz := Lib.hid hT; have HEz := Lib.hid et; have HSt13 := Lib.hid (HSt12.out.below hb); have HTk13 := Lib.hid (HTk12.out.below hb); clear hT hb ho et))
  clear HSt11 HTk11 HSt12 HTk12 HMz HRz
  go_upto_region 25 with (go_at_call 7; refine (eqS_c HSt13.out HTz.out HEz.out HSh.out.1 HSh.out.2).mono ?_; rintro e w14 ⟨rfl, hb⟩; have HSt14 := Lib.hid (HSt13.out.below hb); have HTk14 := Lib.hid (HTk13.out.below hb); clear hb)
  clear HSt13 HTk13 HTz
  go_wp2_with (go_at_call 11; refine (HHd.out w14 HTk14.out).mono ?_; rintro e w15 ⟨rfl, hb⟩; have HSt15 := Lib.hid (HSt14.out.below hb); clear hb)
  go_ret
  exact ⟨rfl, HSt15.out.1⟩

theorem byt_of {bs : List Int} (h : ∀ x ∈ bs, (Lit.int .u8 x).wf = true) : Byt bs := fun x hx => by
  have h := h x hx
  simp only [Lit.wf, IntKind.min, IntKind.max, IntKind.signed, IntKind.bits, Bool.and_eq_true, decide_eq_true_eq, if_true, Bool.false_eq_true, if_false] at h
  omega

end Go.Proofs.YtkkodbbgdndhmaaDoor.LxFnExactLex
