/- The contract of impl.pieceOf. -/
import Derived.Test.YtkkodbbgdndhmaaDoorLxyFnExactLex
namespace Go.Proofs.YtkkodbbgdndhmaaDoor.LxFnExactLex
open Go.RowKit Go.Proofs.YtkkodbbgdndhmaaDoor.QFnExactLex Go.Proofs.YtkkodbbgdndhmaaDoorW.PrintWords Go.Proofs.YtkkodbbgdndhmaaDoorW.PrintLast Go.Proofs.YtkkodbbgdndhmaaDoor.LexA Go.Proofs.YtkkodbbgdndhmaaDoor.Fw
open Go.Proofs.YtkkodbbgdndhmaaDoor.LexBFnExactLex (decL dval intV)
set_option linter.unusedSimpArgs false
set_option linter.unusedVariables false

set_option maxHeartbeats 16000000 in
set_option maxRecDepth 100000 in
theorem piece_hex (A : Option Addr) (c : Nat) (l : List Int) (w : World) (hr : Kd.C (Kd.int .u8) w A l.length l) (hc : l.length ≤ c) (hl : l.length ≤ 1048576) (hby : Byt l) (hL : LW w) (hw : ¬ Word l) (hp : Lib.hasPrefix (Lib.bytesOf l) [48, 102] = true) :
    Calls Tryd.prog 25 #[.slice A l.length c] w (Piece l w) := by
  have hu34 := Tryd.underlying34
  have HR := Lib.hid hr
  have HY := Lib.hid hby
  have HL := Lib.hid hL
  clear hr hby hL
  go_enter Tryd.func25, Tryd.ntmps25
  go_upto_region 1 with ((with_reducible refine gate_dst (N := 2) rfl ?_); refine box_event ?hg (N := 2) ?hd (cs := #[.int .i64 0, .int .i64 0, .int .i64 0, .slice none 0 0]) (t := 34) ?hr ?_; (case hd => rfl); (case hg => rfl); (case hr => first | (go_simp; done) | (go_simp; rfl)); intro gb hg w1 hbox hb; have HG := Lib.hid (Nat.le_of_eq hg.symm); have HB := Lib.hid hb; have HX := Lib.hid hbox; clear hg hbox hb)
  have hcv := Kd.C_string (P := Tryd.prog) (A := A) (c := c) Tryd.underlying22 Tryd.underlying5 Tryd.underlying9 (Kd.C_below HR.out HB.out)
  have HSl : Hid ((strOfNums l).toList = Lib.bytesOf l) := Lib.hid (Lib.strOfNums_toList l)
  have hsz : (strOfNums l).size = l.length := strOfNums_size l
  generalize strOfNums l = S at hcv HSl hsz
  obtain ⟨s1, hs1⟩ : ∃ s1, s1 = w1.heap.size := ⟨_, rfl⟩
  have HS1 : Hid (s1 = w1.heap.size ∧ gb < s1) := Lib.hid ⟨hs1, by rw [hs1]; exact blk_lt HX.out⟩
  clear hs1
  have HL1 := Lib.hid (HL.out.below HB.out)
  have HR1 := Lib.hid (Kd.C_below HR.out HB.out)
  clear HL HR
  have HW1 := Lib.hid (smallW_c A c l w1 HR1.out hc)
  have HW2 := Lib.hid (greatW_c A c l w1 HR1.out hc)
  have h1 : smallW l = false := Bool.eq_false_iff.2 (fun h => hw (.inl h))
  have h2 : greatW l = false := Bool.eq_false_iff.2 (fun h => hw (.inr h))
  rw [h1] at HW1
  rw [h2] at HW2
  clear h1 h2
  have HW := Lib.hid hw
  clear hw
  have HCP := Lib.hid (Go.Proofs.YtkkodbbgdndhmaaDoor.Lb.strings_CutPrefix S ⟨#[48, 102]⟩ w1)
  have HSd : Hid (S.data.toList = Lib.bytesOf l) := Lib.hid (by rw [← HSl.out, Lib.toList_data])
  have hhp : true = Lib.hasPrefix S.data.toList [48, 102] := by rw [HSd.out]; exact hp.symm
  clear hp
  obtain ⟨T, hT⟩ : ∃ T : ByteArray, T = ⟨(Lib.trimPrefix S.data.toList [48, 102]).toArray⟩ := ⟨_, rfl⟩
  rw [show ((⟨#[48, 102]⟩ : ByteArray).data.toList) = [48, 102] from rfl, ← hhp, ← hT] at HCP
  have HT : Hid (Lib.bytesOf l = 48 :: 102 :: T.data.toList ∧ T.size ≤ 1048576) := Lib.hid (by
    have h := prefix_rest hhp.symm
    rw [hT, ← HSd.out]
    have e : Lib.trimPrefix S.data.toList [48, 102] = S.data.toList.drop 2 := by unfold Lib.trimPrefix; rw [if_pos hhp.symm]; rfl
    refine ⟨?_, ?_⟩
    · show S.data.toList = 48 :: 102 :: (Lib.trimPrefix S.data.toList [48, 102])
      rw [e]; exact h
    · show (Lib.trimPrefix S.data.toList [48, 102]).toArray.size ≤ 1048576
      rw [e, List.size_toArray, List.length_drop, HSd.out, Lib.bytesOf_length]
      omega)
  clear hhp hT
  have HPU := Lib.hid (parse_c T HT.out.2 w1 HL1.out)
  go_upto_region 7 with (first | (go_at_call 32; refine HW1.out.mono ?_; rintro e w' ⟨rfl, rfl⟩) | (go_at_call 33; refine HW2.out.mono ?_; rintro e w' ⟨rfl, rfl⟩) | (go_at_call 35; refine HCP.out.mono ?_; rintro e w' ⟨rfl, rfl⟩) | (go_at_call 36; refine HPU.out.mono ?_; rintro e w2 ⟨u, b, v, rfl, hev, hu0, hu1, hb2, hs⟩; have HEv := Lib.hid hev; have HU0 := Lib.hid hu0; have HU1 := Lib.hid hu1; have HB2 := Lib.hid hb2; have HS := Lib.hid hs; clear hev hu0 hu1 hb2 hs))
  obtain ⟨un, rfl⟩ : ∃ un : Nat, u = un := ⟨u.toNat, by have := HU0.out; omega⟩
  have hun : un < 18446744073709551616 := by have := HU1.out; omega
  have HX2 := Lib.hid (blk_below HX.out HB2.out)
  have HL2 := Lib.hid (HL1.out.below HB2.out)
  have HBb := Lib.hid (below_step HB.out HB2.out)
  have HFl : Hid (∀ u', IsFlt l u' → un = u' ∧ b = true) := Lib.hid (fun u' h => by
    have e : T.data.toList = hex16 u' := by
      have e1 := HT.out.1.symm.trans ((flt_bytes h).trans (flt_eq u'))
      injection e1 with _ e1
      injection e1 with _ e1
    have hsz : T.size = 16 := by rw [Lib.size_eq, e]; exact hex16_len u' h.1
    have := HS.out u' (by rw [e]; exact hval_hex16 u') (by omega) (by omega)
    exact ⟨by have := this.1; omega, this.2⟩)
  have HIn : Hid (∀ m, ¬ IsInt l m) := Lib.hid (fun m h => dec_no_0f m T.data.toList ((int_bytes h).symm.trans HT.out.1))
  clear HS HPU HCP HW1 HW2 HU0 HU1
  rcases HEv.out with ⟨rfl, rfl⟩ | ⟨rfl, p, rfl⟩
  · have hwo := wordOf_back un hun
    have HTx : Hid (∀ w3, Below w2.heap.size w2 w3 → Calls Tryd.prog 37 #[.int .i64 (wrap64 un)] w3 fun e w' => e = .returned (.string ⟨(flt un).toArray⟩) ∧ Below w3.heap.size w3 w') := Lib.hid (fun w3 hb => by
      have h := text_c (wrap64 un) w3 (HL2.out.below hb)
      rw [hwo] at h
      exact h)
    have HFc := Lib.hid (fun w3 => isF_c (wrap64 un) w3)
    have hxl : (⟨(flt un).toArray⟩ : ByteArray).toList = flt un := by rw [Lib.toList_data]
    by_cases heq : flt un = Lib.bytesOf l
    · have d1 : ((⟨(flt un).toArray⟩ : ByteArray).toList == S.toList) = true := by rw [hxl, HSl.out]; exact beq_iff_eq.2 heq
      have HlE : Hid (l = nums8 (flt un)) := Lib.hid (by rw [heq]; exact (nums8_bytes HY.out).symm)
      have HP1 : Hid (isF (wrap64 un) = true → IsPiece l ⟨3, 0, wrap64 un, []⟩) := Lib.hid (fun h => .inr (.inr ⟨un, ⟨hun, HlE.out, h⟩, rfl⟩))
      have HP2 : Hid (isF (wrap64 un) = false → ∀ t', ¬ IsPiece l t') := Lib.hid (fun h => no_piece HW.out HIn.out (fun u' hu' => by have e := (HFl.out u' hu').1; subst e; rw [hu'.2.2] at h; cases h))
      clear hxl heq hwo hun HFl HIn HlE
      obtain ⟨n, hnw⟩ : ∃ n, n = wrap64 (un : Int) := ⟨_, rfl⟩
      have ew : IntKind.i64.wrap (un : Int) = n := by rw [hnw, i64_w]
      rw [← hnw] at HTx HFc HP1 HP2
      clear hnw
      generalize isF n = fb at HFc HP1 HP2
      generalize (⟨(flt un).toArray⟩ : ByteArray) = X at HTx d1
      go_wp2_with (first | (go_at_call 37; refine (HTx.out _ (Below.refl _ _)).mono ?_; rintro e w3 ⟨rfl, hb⟩; have HX3 := Lib.hid (blk_below HX2.out hb); have HB3 := Lib.hid (below_step HBb.out hb); clear hb; obtain ⟨z0, z1, z2, z3⟩ := four HX3.out; have f0 := blk_frozen HX3.out 0; have f1 := blk_frozen HX3.out 1; have f2 := blk_frozen HX3.out 2; have f3 := blk_frozen HX3.out 3) | (go_at_call 38; refine (HFc.out _).mono ?_; rintro e w' ⟨rfl, rfl⟩))
      refine bodyPost_ret (results_row_tmp rfl _ _ gb 34 #[.int .i64 3, .int .i64 0, .int .i64 n, .slice none 0 0] (0, 0) _ rfl (set4 HX3.out _ _ _ _) Tryd.underlying34 rfl (by kernel_rfl)) rfl ?_
      exact ⟨⟨3, 0, n, []⟩, .slice none 0 0, fb, rfl, Kd.R_nil _ _ _ _ _, below4 HB3.out HG.out _ _ _ _, fun h => HP1.out h, fun h => HP2.out h⟩
    · have d1 : ((⟨(flt un).toArray⟩ : ByteArray).toList == S.toList) = false := by rw [hxl, HSl.out]; exact beq_eq_false_iff_ne.2 heq
      have HP2 : Hid (∀ t', ¬ IsPiece l t') := Lib.hid (no_piece HW.out HIn.out (fun u' hu' => by have e := (HFl.out u' hu').1; subst e; exact heq (flt_bytes hu').symm))
      clear hxl heq hwo hun HFl HIn
      obtain ⟨n, hnw⟩ : ∃ n, n = wrap64 (un : Int) := ⟨_, rfl⟩
      have ew : IntKind.i64.wrap (un : Int) = n := by rw [hnw, i64_w]
      rw [← hnw] at HTx HFc
      clear hnw
      generalize (⟨(flt un).toArray⟩ : ByteArray) = X at HTx d1
      go_wp2_with (first | (go_at_call 37; refine (HTx.out _ (Below.refl _ _)).mono ?_; rintro e w3 ⟨rfl, hb⟩; have HX3 := Lib.hid (blk_below HX2.out hb); have HB3 := Lib.hid (below_step HBb.out hb); clear hb; obtain ⟨z0, z1, z2, z3⟩ := four HX3.out; have f0 := blk_frozen HX3.out 0; have f1 := blk_frozen HX3.out 1; have f2 := blk_frozen HX3.out 2; have f3 := blk_frozen HX3.out 3))
      refine bodyPost_ret (results_row_tmp rfl _ _ gb 34 #[.int .i64 3, .int .i64 0, .int .i64 n, .slice none 0 0] (0, 0) _ rfl (set4 HX3.out _ _ _ _) Tryd.underlying34 rfl (by kernel_rfl)) rfl ?_
      exact ⟨⟨3, 0, n, []⟩, .slice none 0 0, false, rfl, Kd.R_nil _ _ _ _ _, below4 HB3.out HG.out _ _ _ _, fun h => (by cases h), fun _ => HP2.out⟩
  · have HP2 : Hid (∀ t', ¬ IsPiece l t') := Lib.hid (no_piece HW.out HIn.out (fun u' hu' => by have e := (HFl.out u' hu').2; cases e))
    clear hun HFl HIn
    obtain ⟨n, hnw⟩ : ∃ n, n = wrap64 (un : Int) := ⟨_, rfl⟩
    have ew : IntKind.i64.wrap (un : Int) = n := by rw [hnw, i64_w]
    clear hnw
    obtain ⟨z0, z1, z2, z3⟩ := four HX2.out
    have f0 := blk_frozen HX2.out 0
    have f1 := blk_frozen HX2.out 1
    have f2 := blk_frozen HX2.out 2
    have f3 := blk_frozen HX2.out 3
    go_wp2
    refine bodyPost_ret (results_row_tmp rfl _ _ gb 34 #[.int .i64 3, .int .i64 0, .int .i64 n, .slice none 0 0] (0, 0) _ rfl (set4 HX2.out _ _ _ _) Tryd.underlying34 rfl (by kernel_rfl)) rfl ?_
    exact ⟨⟨3, 0, n, []⟩, .slice none 0 0, false, rfl, Kd.R_nil _ _ _ _ _, below4 HBb.out HG.out _ _ _ _, fun h => (by cases h), fun _ => HP2.out⟩

end Go.Proofs.YtkkodbbgdndhmaaDoor.LxFnExactLex
