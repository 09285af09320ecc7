/- The contract of impl.pieceOf. -/
import Derived.Test.YtkkodbbgdndhmaaDoorLxyFnExactLex
namespace Go.Proofs.YtkkodbbgdndhmaaDoor.LxFnExactLex
open Go.RowKit Go.Proofs.YtkkodbbgdndhmaaDoor.QFnExactLex Go.Proofs.YtkkodbbgdndhmaaDoorW.PrintWords Go.Proofs.YtkkodbbgdndhmaaDoorW.PrintLast Go.Proofs.YtkkodbbgdndhmaaDoor.LexA Go.Proofs.YtkkodbbgdndhmaaDoor.Fw
open Go.Proofs.YtkkodbbgdndhmaaDoor.LexBFnExactLex (decL dval intV)
set_option linter.unusedSimpArgs false
set_option linter.unusedVariables false

set_option maxHeartbeats 16000000 in
set_option maxRecDepth 100000 in
theorem piece_int (A : Option Addr) (c : Nat) (l : List Int) (w : World) (hr : Kd.C (Kd.int .u8) w A l.length l) (hc : l.length ≤ c) (hl : l.length ≤ 1048576) (hby : Byt l) (hL : LW w) (hw : ¬ Word l) (hp : Lib.hasPrefix (Lib.bytesOf l) [48, 102] = false) :
    Calls Tryd.prog 25 #[.slice A l.length c] w (Piece l w) := by
  have hu34 := Tryd.underlying34
  have HR := Lib.hid hr
  have HY := Lib.hid hby
  have HL := Lib.hid hL
  clear hr hby hL
  go_enter Tryd.func25, Tryd.ntmps25
  go_upto_region 1 with ((with_reducible refine gate_dst (N := 2) rfl ?_); refine box_event ?hg (N := 2) ?hd (cs := #[.int .i64 0, .int .i64 0, .int .i64 0, .slice none 0 0]) (t := 34) ?hr ?_; (case hd => rfl); (case hg => rfl); (case hr => first | (go_simp; done) | (go_simp; rfl)); intro gb hg w1 hbox hb; have HG := Lib.hid (Nat.le_of_eq hg.symm); have HB := Lib.hid hb; have HX := Lib.hid hbox; clear hg hbox hb)
  have hcv := Kd.C_string (P := Tryd.prog) (A := A) (c := c) Tryd.underlying22 Tryd.underlying5 Tryd.underlying9 (Kd.C_below HR.out HB.out)
  have HSl : Hid ((strOfNums l).toList = Lib.bytesOf l) := Lib.hid (Lib.strOfNums_toList l)
  have hsz : (strOfNums l).size = l.length := strOfNums_size l
  generalize strOfNums l = S at hcv HSl hsz
  obtain ⟨s1, hs1⟩ : ∃ s1, s1 = w1.heap.size := ⟨_, rfl⟩
  have HS1 : Hid (s1 = w1.heap.size ∧ gb < s1) := Lib.hid ⟨hs1, by rw [hs1]; exact blk_lt HX.out⟩
  clear hs1
  have HL1 := Lib.hid (HL.out.below HB.out)
  have HR1 := Lib.hid (Kd.C_below HR.out HB.out)
  clear HL HR
  have HW1 := Lib.hid (smallW_c A c l w1 HR1.out hc)
  have HW2 := Lib.hid (greatW_c A c l w1 HR1.out hc)
  have h1 : smallW l = false := Bool.eq_false_iff.2 (fun h => hw (.inl h))
  have h2 : greatW l = false := Bool.eq_false_iff.2 (fun h => hw (.inr h))
  rw [h1] at HW1
  rw [h2] at HW2
  clear h1 h2
  have HW := Lib.hid hw
  clear hw
  have HCP := Lib.hid (Go.Proofs.YtkkodbbgdndhmaaDoor.Lb.strings_CutPrefix S ⟨#[48, 102]⟩ w1)
  have HSd : Hid (S.data.toList = Lib.bytesOf l) := Lib.hid (by rw [← HSl.out, Lib.toList_data])
  have hhp : false = Lib.hasPrefix S.data.toList [48, 102] := by rw [HSd.out]; exact hp.symm
  clear hp
  obtain ⟨T, hT⟩ : ∃ T : ByteArray, T = ⟨(Lib.trimPrefix S.data.toList [48, 102]).toArray⟩ := ⟨_, rfl⟩
  rw [show ((⟨#[48, 102]⟩ : ByteArray).data.toList) = [48, 102] from rfl, ← hhp, ← hT] at HCP
  have HFl : Hid (∀ u', ¬ IsFlt l u') := Lib.hid (fun u' h => by
    have e := flt_bytes h
    rw [← HSd.out] at e
    rw [e] at hhp
    exact absurd hhp (by rw [flt_eq]; exact fun h => by cases h))
  have HTab := Lib.hid HL1.out.tab
  have hmax : S.size ≤ 1048576 := by omega
  have HAt : Hid (∃ (n : Int) (b : Bool), -9223372036854775808 ≤ n ∧ n ≤ 9223372036854775807 ∧ (∀ m, IsInt l m → n = m ∧ b = true) ∧ Calls Tryd.prog 39 #[.string S] w1 fun e w' => ∃ v, e = .returned (.tuple #[.int .i64 n, v]) ∧ ErrV v b ∧ Below w1.heap.size w1 w') := Lib.hid (by
    have key : ∀ m, IsInt l m → Lib.atoiAll S.data.toList = .ok m := fun m h => by rw [HSd.out, int_bytes h]; exact atoi_itoa m h.1 h.2.1
    cases ha : Lib.atoiAll S.data.toList
    · rename_i m'
      have hb := Lib.atoiAll_bounds ha
      refine ⟨m', true, hb.1, hb.2, fun m h => ⟨by have h2 := key m h; rw [ha] at h2; injection h2, rfl⟩, ?_⟩
      refine (Go.Proofs.YtkkodbbgdndhmaaDoor.Lb.strconv_Atoi_ok S (by omega) m' ha w1).mono ?_
      rintro e w' ⟨rfl, h⟩
      refine ⟨_, rfl, .inl ⟨rfl, rfl⟩, ?_⟩
      rcases h with rfl | ⟨t, rfl⟩
      · exact Below.refl _ _
      · exact Lib.bytesWorld_below _ _ _
    · obtain ⟨ev, hv, hev⟩ := HL1.out.c1
      refine ⟨0, false, by omega, by omega, fun m h => (by have h2 := key m h; rw [ha] at h2; cases h2), ?_⟩
      refine (Go.Proofs.YtkkodbbgdndhmaaDoor.Lb.strconv_Atoi_syntax S (by omega) ⟨fun v h => (by rw [ha] at h; cases h), fun h => (by rw [ha] at h; cases h)⟩ ev w1 hv hev).mono ?_
      rintro e w' ⟨N, rfl, _, _, hb⟩
      exact ⟨_, rfl, .inr ⟨rfl, _, rfl⟩, hb⟩
    · obtain ⟨ev, hv, hev⟩ := HL1.out.c2
      have hb := Lib.atoiSat_bounds S.data.toList
      refine ⟨Lib.atoiSat S.data.toList, false, hb.1, hb.2, fun m h => (by have h2 := key m h; rw [ha] at h2; cases h2), ?_⟩
      refine (Go.Proofs.YtkkodbbgdndhmaaDoor.Lb.strconv_Atoi_range S (by omega) ha ev w1 hv hev).mono ?_
      rintro e w' ⟨N, rfl, _, _, hb⟩
      exact ⟨_, rfl, .inr ⟨rfl, _, rfl⟩, hb⟩)
  obtain ⟨n, b, hn0, hn1, hmi, hcl⟩ := HAt.out
  have HMi := Lib.hid hmi
  have HCl := Lib.hid hcl
  clear hmi hcl HAt hhp hT
  go_upto_region 9 with (first | (go_at_call 32; refine HW1.out.mono ?_; rintro e w' ⟨rfl, rfl⟩) | (go_at_call 33; refine HW2.out.mono ?_; rintro e w' ⟨rfl, rfl⟩) | (go_at_call 35; refine HCP.out.mono ?_; rintro e w' ⟨rfl, rfl⟩) | (go_at_call 39; refine HCl.out.mono ?_; rintro e w2 ⟨v, rfl, hev, hb2⟩; have HEv := Lib.hid hev; have HB2 := Lib.hid hb2; clear hb2 hev))
  have HX2 := Lib.hid (blk_below HX.out HB2.out)
  have HL2 := Lib.hid (HL1.out.below HB2.out)
  have HBb := Lib.hid (below_step HB.out HB2.out)
  clear HCP HW1 HW2
  rcases HEv.out with ⟨rfl, rfl⟩ | ⟨rfl, p, rfl⟩
  · have HTx := Lib.hid (Go.Proofs.YtkkodbbgdndhmaaDoor.Lb.strconv_Itoa n hn0 hn1 w2 HL2.out.tab)
    have hxl : (⟨(Lib.itoa n).toArray⟩ : ByteArray).toList = Lib.itoa n := by rw [Lib.toList_data]
    by_cases heq : Lib.itoa n = Lib.bytesOf l
    · have d1 : ((⟨(Lib.itoa n).toArray⟩ : ByteArray).toList == S.toList) = true := by rw [hxl, HSl.out]; exact beq_iff_eq.2 heq
      have HP1 : Hid (IsPiece l ⟨2, 0, n, []⟩) := Lib.hid (.inr (.inl ⟨n, ⟨hn0, hn1, by rw [decL_eq, heq]; exact (nums8_bytes HY.out).symm⟩, rfl⟩))
      clear hxl heq
      generalize (⟨(Lib.itoa n).toArray⟩ : ByteArray) = X at HTx d1
      go_wp2_with (go_at_call 40; refine HTx.out.mono ?_; rintro e w3 ⟨rfl, kk, os, hw3⟩; have hb : Below w2.heap.size w2 w3 := hw3 ▸ Lib.below_grow _ _ (Nat.le_refl _) _ _; have HX3 := Lib.hid (blk_below HX2.out hb); have HB3 := Lib.hid (below_step HBb.out hb); clear hb hw3; obtain ⟨z0, z1, z2, z3⟩ := four HX3.out; have f0 := blk_frozen HX3.out 0; have f1 := blk_frozen HX3.out 1; have f2 := blk_frozen HX3.out 2; have f3 := blk_frozen HX3.out 3)
      refine bodyPost_ret (results_row_tmp rfl _ _ gb 34 #[.int .i64 2, .int .i64 0, .int .i64 n, .slice none 0 0] (0, 0) _ rfl (set4 HX3.out _ _ _ _) Tryd.underlying34 rfl (by kernel_rfl)) rfl ?_
      exact ⟨⟨2, 0, n, []⟩, .slice none 0 0, true, rfl, Kd.R_nil _ _ _ _ _, below4 HB3.out HG.out _ _ _ _, fun _ => HP1.out, fun h => by cases h⟩
    · have d1 : ((⟨(Lib.itoa n).toArray⟩ : ByteArray).toList == S.toList) = false := by rw [hxl, HSl.out]; exact beq_eq_false_iff_ne.2 heq
      have HP2 : Hid (∀ t', ¬ IsPiece l t') := Lib.hid (no_piece HW.out (fun m h => by have e := (HMi.out m h).1; subst e; exact heq (int_bytes h).symm) HFl.out)
      clear hxl heq
      generalize (⟨(Lib.itoa n).toArray⟩ : ByteArray) = X at HTx d1
      go_wp2_with (go_at_call 40; refine HTx.out.mono ?_; rintro e w3 ⟨rfl, kk, os, hw3⟩; have hb : Below w2.heap.size w2 w3 := hw3 ▸ Lib.below_grow _ _ (Nat.le_refl _) _ _; have HX3 := Lib.hid (blk_below HX2.out hb); have HB3 := Lib.hid (below_step HBb.out hb); clear hb hw3; obtain ⟨z0, z1, z2, z3⟩ := four HX3.out; have f0 := blk_frozen HX3.out 0; have f1 := blk_frozen HX3.out 1; have f2 := blk_frozen HX3.out 2; have f3 := blk_frozen HX3.out 3)
      refine bodyPost_ret (results_row_tmp rfl _ _ gb 34 #[.int .i64 2, .int .i64 0, .int .i64 n, .slice none 0 0] (0, 0) _ rfl (set4 HX3.out _ _ _ _) Tryd.underlying34 rfl (by kernel_rfl)) rfl ?_
      exact ⟨⟨2, 0, n, []⟩, .slice none 0 0, false, rfl, Kd.R_nil _ _ _ _ _, below4 HB3.out HG.out _ _ _ _, fun h => (by cases h), fun _ => HP2.out⟩
  · have HP2 : Hid (∀ t', ¬ IsPiece l t') := Lib.hid (no_piece HW.out (fun m h => by have e := (HMi.out m h).2; cases e) HFl.out)
    obtain ⟨z0, z1, z2, z3⟩ := four HX2.out
    have f0 := blk_frozen HX2.out 0
    have f1 := blk_frozen HX2.out 1
    have f2 := blk_frozen HX2.out 2
    have f3 := blk_frozen HX2.out 3
    go_wp2
    refine bodyPost_ret (results_row_tmp rfl _ _ gb 34 #[.int .i64 2, .int .i64 0, .int .i64 n, .slice none 0 0] (0, 0) _ rfl (set4 HX2.out _ _ _ _) Tryd.underlying34 rfl (by kernel_rfl)) rfl ?_
    exact ⟨⟨2, 0, n, []⟩, .slice none 0 0, false, rfl, Kd.R_nil _ _ _ _ _, below4 HBb.out HG.out _ _ _ _, fun h => (by cases h), fun _ => HP2.out⟩

end Go.Proofs.YtkkodbbgdndhmaaDoor.LxFnExactLex
