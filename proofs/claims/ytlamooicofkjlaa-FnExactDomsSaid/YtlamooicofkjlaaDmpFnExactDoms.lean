/- The walk of the law FnExactDoms. -/
import Derived.Test.YtlamooicofkjlaaDmoFnExactDoms
namespace Go.Proofs.Ytlamooicofkjlaa.DmFnExactDoms
open Go.RowKit Go.Proofs.Ytlamooicofkjlaa.QFnExactDoms Go.Proofs.YtlamooicofkjlaaW.PrintWords Go.Proofs.YtlamooicofkjlaaW.PrintLast Go.Proofs.Ytlamooicofkjlaa.SrFnExactDoms
open Go.Proofs.Ytlamooicofkjlaa.FnEFnExactDoms (Fits Short Short' ShortB' szAll toT toV toB szFn_tells toFn_tells eqFn_tells short_of short')
open Go.Proofs.Ytlamooicofkjlaa.IntSFnExactDoms (mark_tells held_tells)
open Go.Proofs.Ytlamooicofkjlaa.Aid (ups ups_length)
attribute [local go_sem ↓] Go.wp_at_zero Go.wp_at_succ
set_option linter.unusedVariables false
set_option linter.unusedSimpArgs false

theorem held_c (V : Option Addr) (m n : Nat) (w : World) (hn : n ≤ 1048576) (h : Kd.C (Kd.int .i64) w V n (ups 1 n)) (hm : n ≤ m) :
    Calls Try.prog 12 #[.slice V n m, .int .i64 1] w (fun e w' => e = .returned (.int .i64 (1 + n)) ∧ Below w.heap.size w w') := by
  obtain ⟨t, rfl, K, hK⟩ := held_tells n 1 hn (by omega) (by omega)
  have e1 : (ups 1 n).length = n := ups_length _ _
  have hc := laws_heldIntS.calls K V m (ups 1 n) 1 (1 + n) w (by rw [e1]; exact h) (by rw [e1]; exact hm) (hK K (Nat.le_refl _))
  rw [e1] at hc
  refine hc.mono ?_
  rintro e w' ⟨rfl, hd⟩
  exact ⟨rfl, hd.below⟩

set_option maxHeartbeats 16000000 in
set_option maxRecDepth 100000 in
theorem law_c (A0 : Option Addr) (c0 : Nat) (l0 : List S24) (a1 a2 : Int) (A3 : Option Addr) (c3 : Nat) (l3 : List S63) (A4 : Option Addr) (c4 : Nat) (l4 : List S67) (w : World) (hr0 : Kd.C k24 w A0 l0.length l0) (hc0 : l0.length ≤ c0) (hr3 : Kd.C k63 w A3 l3.length l3) (hc3 : l3.length ≤ c3) (hr4 : Kd.C k67 w A4 l4.length l4) (hc4 : l4.length ≤ c4) (hf : Fits l0 l3 l4) :
    Calls Try.prog 3 #[.agg #[.slice A0 l0.length c0, .int .i64 a1, .int .i64 a2, .slice A3 l3.length c3, .slice A4 l4.length c4]] w (fun e w' => e = .returned (.bool true) ∧ Below w.heap.size w w') := by
  have hu28 := Try.underlying28
  have hu37 := Try.underlying37
  obtain ⟨t, ht, K, hK⟩ := szFn_tells l0 a1 a2 l3 l4 hf
  have HSz : Hid (∀ w1, Below w.heap.size w w1 → Calls Try.prog 4 #[fnV A0 l0.length c0 a1 a2 A3 l3.length c3 A4 l4.length c4, .int .i64 1048576] w1 (fun e w' => e = .returned (.int .i64 t) ∧ Below w1.heap.size w1 w')) := Lib.hid (fun w1 hb => laws_szFn.calls K A0 c0 l0 a1 a2 A3 c3 l3 A4 c4 l4 1048576 t w1 (Kd.C_below hr0 hb) hc0 (Kd.C_below hr3 hb) hc3 (Kd.C_below hr4 hb) hc4 (hK K (Nat.le_refl _)))
  by_cases htn : t < 0
  · have d1 : decide (t < 0) = true := decide_eq_true htn
    clear ht hK htn hf hr0 hr3 hr4
    go_enter Try.func3, Try.ntmps3
    go_wp2_with (first | ((with_reducible refine gate_dst (N := 1) rfl ?_); refine box_event ?hg (N := 1) ?hd (cs := #[.slice A0 l0.length c0, .int .i64 a1, .int .i64 a2, .slice A3 l3.length c3, .slice A4 l4.length c4]) (t := 28) ?hr ?_; (case hd => rfl); (case hg => rfl); (case hr => first | (go_simp; done) | (go_simp; rfl)); intro gb hg w1 hbox hb; clear hg; have HB := Lib.hid hb; obtain ⟨y0, y1, y2, y3, y4⟩ := five hbox; clear hbox hb) | (go_at_call 4; refine (HSz.out _ HB.out).mono ?_; rintro e w2 ⟨rfl, hb⟩; have HB2 := Lib.hid (below_step HB.out hb HB.out.size); clear hb y0 y1 y2 y3 y4))
    go_ret
    exact ⟨rfl, HB2.out⟩
  have d1 : decide (t < 0) = false := decide_eq_false htn
  have hsz : szAll l0 l3 l4 ≤ 1048576 := by
    rcases ht with ht | ⟨h0, h1⟩
    · exact absurd ht htn
    · omega
  have hs : Short l0 l3 l4 := short_of hsz
  have HT : Hid (∀ w1, Below w.heap.size w w1 → Calls Try.prog 6 #[fnV A0 l0.length c0 a1 a2 A3 l3.length c3 A4 l4.length c4] w1 (Made2 (l0.map toT) a1 a2 (l3.map toV) (l4.map toB) w1)) := Lib.hid (fun w1 hb => toFn_c A0 c0 l0 a1 a2 A3 c3 l3 A4 c4 l4 w1 (Kd.C_below hr0 hb) hc0 (Kd.C_below hr3 hb) hc3 (Kd.C_below hr4 hb) hc4 hs)
  have hs' := short' hs
  obtain ⟨L0, hL0⟩ : ∃ L0, L0 = l0.map toT := ⟨_, rfl⟩
  obtain ⟨L3, hL3⟩ : ∃ L3, L3 = l3.map toV := ⟨_, rfl⟩
  obtain ⟨L4, hL4⟩ : ∃ L4, L4 = l4.map toB := ⟨_, rfl⟩
  rw [← hL0, ← hL3, ← hL4] at HT hs'
  have HS := Lib.hid hs'
  have hn0 := hs'.t
  have hn3 := hs'.v
  have hn4 := hs'.b
  clear hL0 hL3 hL4 hs hs' htn hf hK hr0 hr3 hr4 hc0 hc3 hc4 hsz ht
  go_enter Try.func3, Try.ntmps3
  go_upto_region 6 with (first
    | ((with_reducible refine gate_dst (N := 1) rfl ?_); refine box_event ?hg (N := 1) ?hd (cs := #[.slice A0 l0.length c0, .int .i64 a1, .int .i64 a2, .slice A3 l3.length c3, .slice A4 l4.length c4]) (t := 28) ?hr ?_; (case hd => rfl); (case hg => rfl); (case hr => first | (go_simp; done) | (go_simp; rfl)); intro gb hg w1 hbox hb; have HGb := Lib.hid (Nat.le_of_eq hg.symm); clear hg; have HB := Lib.hid hb; have HX := Lib.hid hbox; obtain ⟨y0, y1, y2, y3, y4⟩ := five hbox; clear hbox hb)
    | (go_at_call 4; refine (HSz.out _ HB.out).mono ?_; rintro e w2 ⟨rfl, hb⟩; have HB2 := Lib.hid (below_step HB.out hb HB.out.size); have HX2 := Lib.hid (blk_below HX.out hb); clear hb y0 y1 y2 y3 y4; obtain ⟨y0, y1, y2, y3, y4⟩ := five HX2.out)
    | (go_at_call 6; refine (HT.out _ HB2.out).mono ?_; rintro e w3 ⟨B0, b0, B3, b3, B4, b4, rfl, k, _, hb⟩; have HSp := Lib.hid (spec_c a1 a2 HS.out B0 b0 B3 b3 B4 b4 w3 k); have HB3 := Lib.hid (below_step HB2.out hb HB2.out.size); have HX3 := Lib.hid (blk_below HX2.out hb); clear k hb y0 y1 y2 y3 y4)
    | (go_at_call 5; refine HSp.out.mono ?_; rintro e w4 ⟨v4, r, rfl, hA4, hR4, hb⟩; have HA := Lib.hid hA4; have HR4 := Lib.hid (Kd.R_lower hR4 HB3.out.size); have HB4 := Lib.hid (below_step HB3.out hb HB3.out.size); have HX4 := Lib.hid (blk_below HX3.out hb); clear hA4 hR4 hb HSp))
  have hrl : r.length ≤ 1048576 := by have := answer_len HA.out; omega
  have HSt4 : Hid (St w gb w4.heap.size #[.slice A0 l0.length c0, .int .i64 a1, .int .i64 a2, .slice A3 l3.length c3, .slice A4 l4.length c4] v4 r w4) := Lib.hid ⟨HB4.out, HGb.out, blk_lt HX4.out, Nat.le_refl _, HX4.out, Kd.R_mono (Kd.R_bound HR4.out) (fun k hk => hk.2.2.1)⟩
  obtain ⟨s1, hs1⟩ : ∃ s1, s1 = w4.heap.size := ⟨_, rfl⟩
  rw [← hs1] at HSt4
  have HS1 := Lib.hid hs1
  clear hs1 HB4 HX4 HR4 HB3 HX3 HB2 HX2 HB HX HGb
  obtain ⟨V4, m4, e4, _, _⟩ := Kd.R_reads HSt4.out.r
  subst e4
  obtain ⟨y0, y1, y2, y3, y4⟩ := five HSt4.out.x
  go_upto_region 7 with (first
    | ((with_reducible refine gate_dst (N := 5) rfl ?_); refine box_event ?hg (N := 5) ?hd (cs := #[.slice none 0 0, .int .i64 0, .int .i64 0, .slice none 0 0, .slice none 0 0]) (t := 37) ?hr ?_; (case hd => rfl); (case hg => rfl); (case hr => first | (go_simp; done) | (go_simp; rfl)); intro g5 hg w6 hbox hb; have HG6 := Lib.hid hg; obtain ⟨z0, z1, z2, z3, z4⟩ := five hbox; have n0 := blk_frozen hbox 0; have n1 := blk_frozen hbox 1; have n2 := blk_frozen hbox 2; have n3 := blk_frozen hbox 3; have n4 := blk_frozen hbox 4; have HB6 := Lib.hid hb; have HX6 := Lib.hid hbox; clear hbox hb hg)
    | (go_at_call 6; refine (HT.out _ HSt4.out.b).mono ?_; rintro e w5 ⟨E0, f0, E3, f3, E4, f4, rfl, k, g, hb⟩; rw [← HS1.out] at g; have HK5 := Lib.hid k; have HG5 := Lib.hid g; have HSt5 := Lib.hid (HSt4.out.below hb); clear k g hb y0 y1 y2 y3 y4))
  clear z0 z1 z2 z3 z4 n0 n1 n2 n3 n4
  have HBr := Lib.hid (below5 HB6.out (Nat.le_of_eq HG6.out.symm) (.slice E0 L0.length f0) (.int .i64 a1) (.int .i64 a2) (.slice E3 L3.length f3) (.slice E4 L4.length f4))
  have HX7 := Lib.hid (set5 HX6.out (.slice E0 L0.length f0) (.int .i64 a1) (.int .i64 a2) (.slice E3 L3.length f3) (.slice E4 L4.length f4))
  generalize (((((w6.setCell ⟨g5, 0, none⟩ (.slice E0 L0.length f0)).setCell ⟨g5, 1, none⟩ (.int .i64 a1)).setCell ⟨g5, 2, none⟩ (.int .i64 a2)).setCell ⟨g5, 3, none⟩ (.slice E3 L3.length f3)).setCell ⟨g5, 4, none⟩ (.slice E4 L4.length f4)) = w7 at HBr HX7 ⊢
  have HSt7 := Lib.hid (HSt5.out.below HBr.out)
  have HK7 := Lib.hid (HK5.out.below HBr.out)
  have HG7 := Lib.hid (HG5.out.below HBr.out)
  have HG6o : Hid (w5.heap.size ≤ g5) := Lib.hid (Nat.le_of_eq HG6.out.symm)
  have HS2 : Hid (w5.heap.size ≤ w7.heap.size ∧ s1 ≤ w5.heap.size) := Lib.hid ⟨HBr.out.size, HSt5.out.hi⟩
  obtain ⟨s2, hs2⟩ : ∃ s2, s2 = w5.heap.size := ⟨_, rfl⟩
  rw [← hs2] at HS2 HG7 HG6o
  clear hs2 HBr HG5 HK5 HSt5 HSt4 HG6 HB6 HX6
  obtain ⟨z0, z1, z2, z3, z4⟩ := five HX7.out
  go_upto_region 8 with (go_at_call 7; refine (impl_m a1 a2 HS.out E0 f0 E3 f3 E4 f4 w7 HK7.out).mono ?_; rintro e w8 ⟨v6, r6, rfl, hA6, hT6, hR, hb⟩; have er : r6 = r := answer_eq hT6 hA6 HA.out; subst er; obtain ⟨V6, m6, e6, _, _⟩ := Kd.R_reads hR; subst e6; have HTt := Lib.hid hT6; have HR6 := Lib.hid (Kd.R_mono (Kd.R_bound hR) (ok' := fun k => w7.heap.size ≤ k) (fun k hk => hk.2.1)); have HSt8 := Lib.hid (HSt7.out.below hb); have HX8 := Lib.hid (blk_below HX7.out hb); have HK8 := Lib.hid (HK7.out.below hb); have HG8 := Lib.hid (HG7.out.below hb); clear hA6 hT6 hR hb z0 z1 z2 z3 z4)
  clear HSt7 HX7 HK7 HG7
  obtain ⟨s3, hs3⟩ : ∃ s3, s3 = w7.heap.size := ⟨_, rfl⟩
  have HPh8 : Hid (Ph L0 L3 L4 a1 a2 s1 s2 s3 g5 E0 f0 E3 f3 E4 f4 (.slice V6 r6.length m6) r6 w8) := Lib.hid ⟨HX8.out, HK8.out, HG8.out, by rw [hs3]; exact HR6.out⟩
  have HS3 : Hid (s2 ≤ s3 ∧ s1 ≤ s2) := Lib.hid (by rw [hs3]; exact HS2.out)
  clear hs3 HX8 HK8 HG8 HR6 HS2
  go_upto_region 10 with (go_at_call 8; refine (eqI_c V6 m6 V4 m4 r6 w8 hrl (Kd.R_reads' HPh8.out.r).2.2 (Kd.R_reads' HPh8.out.r).2.1 (Kd.R_reads' HSt8.out.r).2.2 (Kd.R_reads' HSt8.out.r).2.1).mono ?_; rintro e w9 ⟨rfl, hb⟩; have HSt9 := Lib.hid (HSt8.out.below hb); have HPh9 := Lib.hid (HPh8.out.below hb); clear hb)
  clear HSt8 HPh8
  have HSt0 := Lib.hid (HSt9.out.below (below_drew1 (Below.refl _ _)))
  have HPh0 := Lib.hid (HPh9.out.below (below_drew1 (Below.refl _ _)))
  clear HSt9 HPh9
  go_region_held_law (fun w' => (w'.cell? ⟨g5, 0, none⟩ = some (.slice E0 L0.length f0) ∧ w'.cell? ⟨g5, 1, none⟩ = some (.int .i64 a1) ∧ w'.cell? ⟨g5, 2, none⟩ = some (.int .i64 a2) ∧ w'.cell? ⟨g5, 3, none⟩ = some (.slice E3 L3.length f3) ∧ w'.cell? ⟨g5, 4, none⟩ = some (.slice E4 L4.length f4)) ∧ w'.cell? ⟨gb, 0, none⟩ = some (.slice A0 l0.length c0) ∧ w'.cell? ⟨gb, 1, none⟩ = some (.int .i64 a1) ∧ w'.cell? ⟨gb, 2, none⟩ = some (.int .i64 a2) ∧ w'.cell? ⟨gb, 3, none⟩ = some (.slice A3 l3.length c3) ∧ w'.cell? ⟨gb, 4, none⟩ = some (.slice A4 l4.length c4)) (first | exact ⟨five HPh0.out.x, five HSt0.out.x⟩ | exact ⟨five HPh10.out.x, five HSt10.out.x⟩ | exact ⟨five HPh11.out.x, five HSt11.out.x⟩) (first
    | (go_at_call 6; refine (HT.out _ HSt0.out.b).mono ?_; rintro e w10 ⟨F0, h0, F3, h3, F4, h4, rfl, k, _, hb⟩; have HK10 := Lib.hid k; have HSt10 := Lib.hid (HSt0.out.below hb); have HPh10 := Lib.hid (HPh0.out.below hb); clear k hb)
    | (go_at_call 9; refine (eqFn_c a1 a2 HS.out E0 f0 E3 f3 E4 f4 F0 h0 F3 h3 F4 h4 w10 HPh10.out.m HK10.out).mono ?_; rintro e w11 ⟨rfl, hb⟩; have HSt11 := Lib.hid (HSt10.out.below hb); have HPh11 := Lib.hid (HPh10.out.below hb); clear hb))
  clear HSt0 HPh0 HSt10 HPh10 HK10
  obtain ⟨z0, z1, z2, z3, z4⟩ := five HPh11.out.x
  have hold : ∀ g, Made s1 s2 g → g < w11.heap.size := fun g hg => by
    have h1 := hg.2
    have h4 := blk_lt HPh11.out.x
    have h5 := HG6o.out
    omega
  have HHold := Lib.hid hold
  clear hold
  go_upto_region 14 with (go_at_call 10; refine (markFn_c (Made s1 s2) w11 _ _ _ L0.length L3.length L4.length a1 a2 _ HPh11.out.g.t HPh11.out.g.v HPh11.out.g.b hn0 hn3 hn4 (by omega) (by omega) HHold.out).mono ?_; rintro e w12 ⟨q, rfl, hq, wm, hb, hs⟩; have hst := (HSt11.out.below hb).sim hs (fun k hk => hk.1); have h7 := Kd.R_move (Kd.R_below HPh11.out.r hb) (fun k hk => hs.far k (fun hf => by have h1 := hf.2; have hk : s3 ≤ k := hk; have h2 := HS3.out.1; omega)); have HSt12 := Lib.hid hst; have HR12 := Lib.hid h7; have HQ := Lib.hid hq; clear hq hb hs hst h7 z0 z1 z2 z3 z4)
  clear HSt11 HPh11
  have dq : decide (q < 0) = false := decide_eq_false (by have := HQ.out; omega)
  go_upto_region 17 with (go_at_call 8; refine (eqI_c V6 m6 V4 m4 r6 w12 hrl (Kd.R_reads' HR12.out).2.2 (Kd.R_reads' HR12.out).2.1 (Kd.R_reads' HSt12.out.r).2.2 (Kd.R_reads' HSt12.out.r).2.1).mono ?_; rintro e w13 ⟨rfl, hb⟩; have HSt13 := Lib.hid (HSt12.out.below hb); have HR13 := Lib.hid (Kd.R_below HR12.out hb); clear hb)
  clear HSt12 HR12 HQ dq
  have HM : Hid (Calls Try.prog 11 #[.slice V6 r6.length m6, .int .i64 1] w13 (fun e w' => e = .returned (.int .i64 (1 + r6.length)) ∧ St w gb s1 #[.slice A0 l0.length c0, .int .i64 a1, .int .i64 a2, .slice A3 l3.length c3, .slice A4 l4.length c4] (.slice V4 r6.length m4) r6 w' ∧ Kd.R (Kd.int .i64) 3 w' s3 (fun k => s3 ≤ k) (.slice V6 r6.length m6) (ups 1 r6.length))) := Lib.hid (by
    obtain ⟨t, rfl, K, hK⟩ := mark_tells r6 1 hrl (by omega) (by omega)
    have hbase : ∀ k, (Value.slice V6 r6.length m6).ownBlock = some k → s3 ≤ k := fun k hk => HR13.out.1 k hk
    have hs13 : w.heap.size ≤ s3 := by have h1 := HSt13.out.lo; have h2 := HSt13.out.mi; have h3 := HS3.out; omega
    refine (laws_markIntS.calls K (fun k => some k = (Value.slice V6 r6.length m6).ownBlock) (.slice V6 r6.length m6) r6 1 (1 + r6.length) (ups 1 r6.length) w w13 HSt13.out.b (Kd.R_tight rfl (Kd.R_lower HR13.out hs13)) (hK K (Nat.le_refl _))).mono ?_
    rintro e w' ⟨rfl, hR, hb, hk⟩
    have hK2 : Kept w13 w' (fun k => some k = (Value.slice V6 r6.length m6).ownBlock) := hk
    refine ⟨rfl, HSt13.out.kept hb hK2 (fun k hk => by have h1 := hbase k hk.symm; have h2 := HS3.out; omega), ?_⟩
    obtain ⟨_, inner, ho, hr⟩ := hR
    exact ⟨fun k hk => hbase k hk, inner, ⟨ho.1, ho.2.imp id (fun ⟨g, cap, cur, hv, _, rest⟩ => ⟨g, cap, cur, hv, hbase g (by rw [hv]; rfl), rest⟩)⟩, hr.imp_ (fun _ _ hp => hp)⟩)
  go_upto_region 19 with (go_at_call 11; refine HM.out.mono ?_; rintro e w14 ⟨rfl, hst, h7⟩; have HSt14 := Lib.hid hst; have HR14 := Lib.hid h7; clear hst h7)
  clear HM HSt13 HR13
  have d3 : decide ((1 : Int) + r6.length < 0) = false := decide_eq_false (by omega)
  have d4 : ((1 : Int) + r6.length != 1 + r6.length) = false := bne_self_eq_false _
  go_upto_region 24 with (go_at_call 12; refine (held_c V6 m6 r6.length w14 hrl (by have := (Kd.R_reads' HR14.out).2.2; rw [ups_length] at this; exact this) (by have := (Kd.R_reads' HR14.out).2.1; exact this)).mono ?_; rintro e w15 ⟨rfl, hb⟩; have HSt15 := Lib.hid (HSt14.out.below hb); have HR15 := Lib.hid (Kd.R_below HR14.out hb); clear hb)
  clear HSt14 HR14
  obtain ⟨y0, y1, y2, y3, y4⟩ := five HSt15.out.x
  go_upto_region 25 with (first
    | (go_at_call 6; refine (HT.out _ HSt15.out.b).mono ?_; rintro e w16 ⟨G0, j0, G3, j3, G4, j4, rfl, k, _, hb⟩; have HIm := Lib.hid (impl_m a1 a2 HS.out G0 j0 G3 j3 G4 j4 w16 k); have HSt16 := Lib.hid (HSt15.out.below hb); have HR16 := Lib.hid (Kd.R_below HR15.out hb); clear k hb y0 y1 y2 y3 y4)
    | (go_at_call 7; refine HIm.out.mono ?_; rintro e w17 ⟨v9, r9, rfl, hA9, hT9, hR, hb⟩; have er : r9 = r6 := answer_eq hT9 hA9 HA.out; subst er; obtain ⟨V9, m9, e9, _, _⟩ := Kd.R_reads hR; subst e9; have HR9 := Lib.hid hR; have HSt17 := Lib.hid (HSt16.out.below hb); have HR17 := Lib.hid (Kd.R_below HR16.out hb); clear hb hR hA9 hT9))
  clear HSt15 HR15 HSt16 HR16 HIm
  go_upto_region 28 with (go_at_call 8; refine (eqI_c V9 m9 V4 m4 _ w17 hrl (Kd.R_reads' HR9.out).2.2 (Kd.R_reads' HR9.out).2.1 (Kd.R_reads' HSt17.out.r).2.2 (Kd.R_reads' HSt17.out.r).2.1).mono ?_; rintro e w18 ⟨rfl, hb⟩; have HSt18 := Lib.hid (HSt17.out.below hb); have HR18 := Lib.hid (Kd.R_below HR17.out hb); clear hb)
  clear HSt17 HR17 HR9
  go_wp2_with (go_at_call 12; refine (held_c V6 m6 _ w18 hrl (by have := (Kd.R_reads' HR18.out).2.2; rw [ups_length] at this; exact this) (Kd.R_reads' HR18.out).2.1).mono ?_; rintro e w19 ⟨rfl, hb⟩; have HSt19 := Lib.hid (HSt18.out.below hb); clear hb)
  go_ret
  exact ⟨rfl, HSt19.out.b⟩
