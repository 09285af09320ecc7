/- The contract of spec.l11bytes. -/
import Derived.Test.YtkfeoilnhpfknaaImoFnExactImageRead
import Derived.Deep.RegionHeld3
import Derived.Deep.RegionHeldLaw
import Derived.Deep.DrawnRows
namespace Go.Proofs.Ytkfeoilnhpfknaa.ImFnExactImageRead
open Go.RowKit Go.Proofs.Ytkfeoilnhpfknaa.QFnExactImageRead Go.Proofs.YtkfeoilnhpfknaaW.PrintWords Go.Proofs.YtkfeoilnhpfknaaW.PrintLast
attribute [local go_sem ↓] Go.wp_at_zero Go.wp_at_succ
attribute [local go_sem] Go.World.cell?_alloc_some

set_option maxHeartbeats 8000000 in
set_option maxRecDepth 100000 in
theorem sbytes_c (A0 : Option Addr) (c0 : Nat) (l0 : List (List Bool)) (A1 : Option Addr) (c1 : Nat) (l1 : List S53) (a2 : Int) (w : World) (hr0 : Kd.C (Kd.slice 4 Kd.bool) w A0 l0.length l0) (hr1 : Kd.C k53 w A1 l1.length l1) (hsz : (imgS l0 l1 a2).length ≤ 1099511627) :
    Calls Try.prog 24 #[.agg #[.slice A0 l0.length c0, .slice A1 l1.length c1, .int .i64 a2]] w (Bytes w (imgS l0 l1 a2)) := by
  have hu30 := Try.underlying30
  have HR0 := Lib.hid hr0
  have HR1 := Lib.hid hr1
  have hszB : (imgB l0 l1 a2).length ≤ 1099511627 := by rw [← imgS_len]; exact hsz
  have hn0 := len0 hszB
  have hn1 := len1 hszB
  clear hr0 hr1
  have kc := fun (w : World) (C : Array Value) (n c : Nat) => Lib.run_convert_bytes_const (P := Try.prog) w 34 5 C n c Try.underlying34 Try.underlying5
  have kc2 : ∀ (w : World) (C : Array Value) (n c : Nat), (convert 34 34 (.slice (some ⟨w.heap.size, 0, none⟩) n c)).run Try.prog ((w.alloc (.cells C 5)).drew) = .ok (.slice (some ⟨w.heap.size, 0, none⟩) n c) ((w.alloc (.cells C 5 (C.size, C.size + 1))).drew) := fun w C n c => kc w.drew C n c
  clear kc
  go_enter Try.func24, Try.ntmps24
  go_upto_region 1 with ((with_reducible refine gate_dst (N := 1) rfl ?_); refine box_event ?hg (N := 1) ?hd (cs := #[.slice A0 l0.length c0, .slice A1 l1.length c1, .int .i64 a2]) (t := 30) ?hr ?_; (case hd => rfl); (case hg => rfl); (case hr => first | (go_simp; done) | (go_simp; rfl)); intro gb hg w6 hbox hb; have hgq := Nat.le_of_eq hg.symm; clear hg; have z0 := (blk_cell hbox 0).trans rfl; have z1 := (blk_cell hbox 1).trans rfl; have z2 := (blk_cell hbox 2).trans rfl; have f0 := blk_frozen hbox 0; have f1 := blk_frozen hbox 1; have f2 := blk_frozen hbox 2; have HB0 := Lib.hid hb; have HX0 := Lib.hid hbox; have HG0 := Lib.hid hgq; clear hbox hb hgq)
  have HBd : Hid (Below w.heap.size w w6.drew) := Lib.hid (below_drew1 HB0.out)
  have HXd : Hid (w6.drew.heap[gb]? = some (.cells #[.slice A0 l0.length c0, .slice A1 l1.length c1, .int .i64 a2] 30 (0, 0))) := HX0
  clear f0 f1 f2 hu30
  go_region_held_law (fun w' => w'.cell? ⟨gb, 0, none⟩ = some (.slice A0 l0.length c0) ∧ w'.cell? ⟨gb, 1, none⟩ = some (.slice A1 l1.length c1) ∧ w'.cell? ⟨gb, 2, none⟩ = some (.int .i64 a2)) (first | go_keep | exact three HX1.out | exact three HX2.out | exact three HX3.out) (first
    | (go_at_call 49; refine (two_c w (.slice B2 m2 d2) _ a2 _ HB2.out HO2.out (by simp [twoB])).mono ?_; rintro e w9 ⟨v3, rfl, h1, h2, h3⟩; obtain ⟨B3, m3, d3, rfl⟩ := h1.any; have HO3 := Lib.hid h1; have HB3 := Lib.hid h2; have HX3 := Lib.hid (h3 _ _ _ (by decide) HX2.out); clear h1 h2 h3)
    | (go_at_call 49; refine (two_c w (.slice B1 m1 d1) _ (l1.length : Int) _ HB1.out HO1.out (by simp [twoB])).mono ?_; rintro e w8 ⟨v2, rfl, h1, h2, h3⟩; obtain ⟨B2, m2, d2, rfl⟩ := h1.any; have HO2 := Lib.hid h1; have HB2 := Lib.hid h2; have HX2 := Lib.hid (h3 _ _ _ (by decide) HX1.out); clear h1 h2 h3)
    | (go_at_call 49; refine (two_first w (l0.length : Int) w6.drew HBd.out).mono ?_; rintro e w7 ⟨v1, rfl, h1, h2, h3⟩; obtain ⟨B1, m1, d1, rfl⟩ := h1.any; have HO1 := Lib.hid h1; have HB1 := Lib.hid h2; have HX1 := Lib.hid (h3 _ _ _ (by decide) HXd.out); clear h1 h2 h3))
  have HO : Hid (OwnB w9 w.heap.size (.slice B3 m3 d3) (headS l0 l1 a2)) := Lib.hid (by have := HO3.out; simpa [headS, twosB, List.append_assoc] using this)
  clear HO1 HB1 HX1 HO2 HB2 HX2 HO3 HBd HXd HB0 HX0 z0 z1 z2 kc2
  go_wp2
  obtain ⟨hs, hhs⟩ : ∃ hs, hs = headS l0 l1 a2 := ⟨_, rfl⟩
  have HH := Lib.hid hhs
  rw [← hhs] at HO
  have HL1 : Hid (∀ i : Nat, i < l0.length → 2 < (hs ++ (l0.take i).flatMap structS).length ∧ (hs ++ (l0.take i).flatMap structS).length + (structS (rd_L1 l0 i)).length ≤ 1099511627) := Lib.hid (fun i hlt => by
    have h7 := flat_lt l0 ([] : List Bool) structS hlt
    have h8 : rd_L1 l0 i = l0.getD i [] := by unfold rd_L1; rw [Int.toNat_natCast]
    rw [h8, hhs]
    unfold imgS at hsz
    rw [List.length_append, List.length_append] at hsz
    rw [List.length_append]
    have h9 : (headS l0 l1 a2).length = 8 := by simp [headS, twosB_len]
    omega)
  clear hhs
  go_loopw [3, 4] (fun v3 v4 wr => ∃ i : Nat, v4 = .int .i64 i ∧ i ≤ l0.length ∧ Hid (OwnB wr w.heap.size v3 (hs ++ (l0.take i).flatMap structS)) ∧ Hid (Below w.heap.size w wr) ∧ Hid (wr.heap[gb]? = some (.cells #[.slice A0 l0.length c0, .slice A1 l1.length c1, .int .i64 a2] 30 (0, 0)))) (fun _ v4 _ => (l0.length - intOf v4).toNat)
  case atStart => exact ⟨0, rfl, by omega, Lib.hid (by rw [List.take_zero, List.flatMap_nil, List.append_nil]; exact HO.out), HB3, HX3⟩
  case round =>
    clear HO HB3 HX3
    obtain ⟨i, rfl, hi, HO, HB, HX⟩ := hrel
    obtain ⟨B1, m1, d1, rfl⟩ := HO.out.any
    have z0 := (blk_cell HX.out 0).trans rfl
    by_cases hlt : i < l0.length
    · have p0 : (0 : Int) ≤ (i : Int) := by omega
      have q0 : (i : Int) < (l0.length : Int) := by omega
      obtain ⟨ad, As, cs, e1, hx, _, hxs⟩ := at_L1 HR0.out i p0 q0
      subst e1
      rw [Int.toNat_natCast] at hx
      have HXs := Lib.hid hx
      replace hx := pw_cell_below HB.out hx
      have HR := Lib.hid hxs
      clear hxs
      have HLn := Lib.hid (HL1.out i hlt)
      go_wp2_with fail
      refine (two_c w (.slice B1 m1 d1) _ _ _ HB.out HO.out (by have := HLn.out.2; omega)).mono ?_
      rintro e w5 ⟨v1, rfl, h1, h2, h3⟩
      have HO5 := Lib.hid h1
      have HB5 := Lib.hid h2
      have HX5 := Lib.hid (h3 _ _ _ (by decide) HX.out)
      clear h1 h2 h3 HO HB HX z0 hx
      obtain ⟨zs, hzs⟩ : ∃ zs, zs = (hs ++ (l0.take i).flatMap structS) ++ twoB ((rd_L1 l0 i).length : Int) := ⟨_, rfl⟩
      have HZ := Lib.hid hzs
      rw [← hzs] at HO5
      obtain ⟨bs, hbs⟩ : ∃ bs, bs = rd_L1 l0 i := ⟨_, rfl⟩
      have HBs := Lib.hid hbs
      have HZl : Hid (2 < zs.length ∧ zs.length + bs.length ≤ 1099511627) := Lib.hid (by
        have h1 := HLn.out
        rw [hzs, hbs]
        simp only [List.length_append, structS, twoB, List.length_map, List.length_cons, List.length_nil] at h1 ⊢
        omega)
      rw [← hbs] at HXs HR
      rw [← hbs]
      clear hzs hbs HLn
      have hbl : bs.length ≤ 1099511627 := by have := HZl.out; omega
      go_wp2
      go_loopw [3, 5] (fun v3 v5 wr => ∃ j : Nat, v5 = .int .i64 j ∧ j ≤ bs.length ∧ Hid (OwnB wr w.heap.size v3 (zs ++ (bs.take j).map boolI)) ∧ Hid (Below w.heap.size w wr) ∧ Hid (wr.heap[gb]? = some (.cells #[.slice (some ad) l0.length c0, .slice A1 l1.length c1, .int .i64 a2] 30 (0, 0)))) (fun _ v5 _ => (bs.length - intOf v5).toNat)
      case atStart => exact ⟨0, rfl, by omega, Lib.hid (by rw [List.take_zero, List.map_nil, List.append_nil]; exact HO5.out), HB5, HX5⟩
      case round =>
        clear HO5 HB5 HX5
        obtain ⟨j, rfl, hj, HO, HB, HX⟩ := hrel
        obtain ⟨B1, m1, d1, rfl⟩ := HO.out.any
        have z0 := (blk_cell HX.out 0).trans rfl
        have hx := pw_cell_below HB.out HXs.out
        by_cases hlj : j < bs.length
        · have p1 : (0 : Int) ≤ (j : Int) := by omega
          have q1 : (j : Int) < (bs.length : Int) := by omega
          obtain ⟨ab, e1, hy⟩ := Kd.at_bool HR.out j p1 q1
          subst e1
          rw [Int.toNat_natCast] at hy
          replace hy := pw_cell_below HB.out hy
          have HS : Hid (zs ++ (bs.take (j + 1)).map boolI = (zs ++ (bs.take j).map boolI) ++ [boolI (rdOf false bs j)]) := Lib.hid (by rw [map_succ bs hlj, List.append_assoc])
          obtain ⟨bi, hbi⟩ : ∃ bi, bi = boolI (rdOf false bs j) := ⟨_, rfl⟩
          have HBi : Hid (bi % 256 = bi) := Lib.hid (by rw [hbi]; unfold boolI; split <;> rfl)
          have HC : Hid (∀ w', Calls Try.prog 50 #[.bool (rdOf false bs j)] w' fun e w'' => e = .returned (.int .i64 bi) ∧ w' = w'') := Lib.hid (fun w' => by rw [hbi]; exact l1bool_c _ w')
          rw [← hbi] at HS
          clear hbi
          obtain ⟨zj, hzj⟩ : ∃ zj, zj = zs ++ (bs.take j).map boolI := ⟨_, rfl⟩
          have HZj : Hid (zj.length + 1 ≤ 1099511627) := Lib.hid (by
            have h1 := HZl.out
            rw [hzj]
            simp only [List.length_append, List.length_map, List.length_take]
            omega)
          rw [← hzj] at HO HS
          clear hzj
          go_wp2_with (first
            | (go_at_call 50; refine (HC.out _).mono ?_; rintro e w' ⟨rfl, rfl⟩)
            | ((with_reducible refine gate_builtin (b := .append) (xs := #[.tmp 51, .tmp 62]) rfl ?_); at_builtin; refine app_list (by rfl) (.tmp 51) (.tmp 62) (by rfl) w _ (.slice B1 m1 d1) zj [bi % 256] (0, 0) (by rfl) (by rfl) (Nat.succ_pos _) HO.out HB.out (by have := HZj.out; rw [List.length_singleton]; omega) ?_; intro v5 w5 h1 h2 h3; have HO5 := Lib.hid h1; have HB5 := Lib.hid h2; have HX5 := Lib.hid (h3 _ _ _ (by decide) HX.out); clear h1 h2 h3 z0 hx hy))
          have HO6 : Hid (OwnB w5 w.heap.size v5 (zs ++ (bs.take (j + 1)).map boolI)) := Lib.hid (by
            have h5 := HO5.out
            rw [HBi.out, ← HS.out] at h5
            exact h5)
          clear HO HB HX HO5 HC
          go_roundw
          case rel => exact ⟨j + 1, by go_num, by omega, HO6, HB5, HX5⟩
          case measure => simp [intOf]; omega
        · obtain rfl : j = bs.length := by omega
          have HP7 : Hid (OwnB wr w.heap.size (.slice B1 m1 d1) (hs ++ (l0.take (i + 1)).flatMap structS)) := Lib.hid (by
            have h1 := HO.out
            rw [List.take_length, HZ.out, List.append_assoc, HBs.out] at h1
            rw [flat_succ l0 [] structS hlt, ← List.append_assoc]
            have h8 : rd_L1 l0 i = l0.getD i [] := by unfold rd_L1; rw [Int.toNat_natCast]
            rw [h8] at h1
            simp only [structS, ← List.append_assoc] at h1 ⊢
            exact h1)
          clear HO
          go_wp2
          go_roundw
          case rel => exact ⟨i + 1, by go_num, by omega, HP7, HB, HX⟩
          case measure => simp [intOf]; omega
    · obtain rfl : i = l0.length := by omega
      have HP1 : Hid (OwnB wr w.heap.size (.slice B1 m1 d1) (hs ++ l0.flatMap structS)) := Lib.hid (by have := HO.out; rwa [List.take_length] at this)
      clear HO
      go_wp2
      clear z0 hi hlt HR0
      obtain ⟨gs, hgs⟩ : ∃ gs, gs = hs ++ l0.flatMap structS := ⟨_, rfl⟩
      have HGs := Lib.hid hgs
      rw [← hgs] at HP1
      have HL2 : Hid (∀ i : Nat, i < l1.length → (gs ++ (l1.take i).flatMap codeS).length + (codeS (rd_T53 l1 i)).length ≤ 1099511627) := Lib.hid (fun i hlt => by
        have h7 := flat_lt l1 z53 codeS hlt
        rw [← rd53_get] at h7
        rw [hgs, HH.out]
        unfold imgS at hsz
        rw [List.length_append] at hsz ⊢
        omega)
      clear hgs
      have z1 := (blk_cell HX.out 1).trans rfl
      clear HL1
      go_loopw [3, 6] (fun v3 v6 wr => ∃ i : Nat, v6 = .int .i64 i ∧ i ≤ l1.length ∧ Hid (OwnB wr w.heap.size v3 (gs ++ (l1.take i).flatMap codeS)) ∧ Hid (Below w.heap.size w wr) ∧ Hid (wr.heap[gb]? = some (.cells #[.slice A0 l0.length c0, .slice A1 l1.length c1, .int .i64 a2] 30 (0, 0)))) (fun _ v6 _ => (l1.length - intOf v6).toNat)
      case atStart => exact ⟨0, rfl, by omega, Lib.hid (by rw [List.take_zero, List.flatMap_nil, List.append_nil]; exact HP1.out), HB, HX⟩
      case round =>
        clear HP1 HB HX z1
        obtain ⟨i, rfl, hi, HO, HB, HX⟩ := hrel
        obtain ⟨B1, m1, d1, rfl⟩ := HO.out.any
        have y1 := (blk_cell HX.out 1).trans rfl
        by_cases hlt : i < l1.length
        · have p0 : (0 : Int) ≤ (i : Int) := by omega
          have q0 : (i : Int) < (l1.length : Int) := by omega
          obtain ⟨ad, A2, c2, A3, c3, e1, x0, x1, x2, x3, _, g2, _, g3⟩ := at_T53 HR1.out i p0 q0
          subst e1
          rw [Int.toNat_natCast] at x0 x1 x2 x3
          replace x0 := pw_cell_below HB.out x0
          replace x1 := pw_cell_below HB.out x1
          replace x2 := pw_cell_below HB.out x2
          replace x3 := pw_cell_below HB.out x3
          have HC2 := Lib.hid g2
          have HC3 := Lib.hid g3
          clear g2 g3
          have hu53 := Try.underlying53
          go_upto_region 14 with ((with_reducible refine gate_dst (N := 7) rfl ?_); refine box_event ?hg (N := 7) ?hd (cs := #[.int .i64 0, .int .i64 0, .slice none 0 0, .slice none 0 0]) (t := 53) ?hr ?_; (case hd => rfl); (case hg => rfl); (case hr => first | (go_simp; done) | (go_simp; rfl)); intro g1 hg w6 hbox hb; have hgq := Nat.le_of_eq hg.symm; clear hg; replace x0 := pw_cell_below hb x0; replace x1 := pw_cell_below hb x1; replace x2 := pw_cell_below hb x2; replace x3 := pw_cell_below hb x3; replace y1 := pw_cell_below hb y1; have z0 := (blk_cell hbox 0).trans rfl; have z1 := (blk_cell hbox 1).trans rfl; have z2 := (blk_cell hbox 2).trans rfl; have z3 := (blk_cell hbox 3).trans rfl; have f0 := blk_frozen hbox 0; have f1 := blk_frozen hbox 1; have f2 := blk_frozen hbox 2; have f3 := blk_frozen hbox 3; have HB6 := Lib.hid hb; have HBX := Lib.hid hbox; have HG1 := Lib.hid hgq; clear hbox hb hgq)
          clear x0 x1 x2 x3 z0 z1 z2 z3 f0 f1 f2 f3 hu53 y1
          have HBr : Hid (Below wr.heap.size wr ((((w6.setCell ⟨g1, 0, none⟩ (.int .i64 (rd_T53 l1 i).f0)).setCell ⟨g1, 1, none⟩ (.int .i64 (rd_T53 l1 i).f1)).setCell ⟨g1, 2, none⟩ (.slice A2 (rd_T53 l1 i).f2.length c2)).setCell ⟨g1, 3, none⟩ (.slice A3 (rd_T53 l1 i).f3.length c3))) := Lib.hid (below_set (below_set (below_set (below_set HB6.out HG1.out) HG1.out) HG1.out) HG1.out)
          have HY1 : Hid (((((w6.setCell ⟨g1, 0, none⟩ (.int .i64 (rd_T53 l1 i).f0)).setCell ⟨g1, 1, none⟩ (.int .i64 (rd_T53 l1 i).f1)).setCell ⟨g1, 2, none⟩ (.slice A2 (rd_T53 l1 i).f2.length c2)).setCell ⟨g1, 3, none⟩ (.slice A3 (rd_T53 l1 i).f3.length c3)).heap[g1]? = some (.cells #[.int .i64 (rd_T53 l1 i).f0, .int .i64 (rd_T53 l1 i).f1, .slice A2 (rd_T53 l1 i).f2.length c2, .slice A3 (rd_T53 l1 i).f3.length c3] 53 (0, 0))) := Lib.hid (by simpa using blk_set (blk_set (blk_set (blk_set HBX.out 0 (.int .i64 (rd_T53 l1 i).f0)) 1 (.int .i64 (rd_T53 l1 i).f1)) 2 (.slice A2 (rd_T53 l1 i).f2.length c2)) 3 (.slice A3 (rd_T53 l1 i).f3.length c3))
          generalize ((((w6.setCell ⟨g1, 0, none⟩ (.int .i64 (rd_T53 l1 i).f0)).setCell ⟨g1, 1, none⟩ (.int .i64 (rd_T53 l1 i).f1)).setCell ⟨g1, 2, none⟩ (.slice A2 (rd_T53 l1 i).f2.length c2)).setCell ⟨g1, 3, none⟩ (.slice A3 (rd_T53 l1 i).f3.length c3)) = w8 at HBr HY1 ⊢
          clear HB6 HBX HG1
          obtain ⟨co, hco⟩ : ∃ co, co = rd_T53 l1 i := ⟨_, rfl⟩
          have HCo := Lib.hid hco
          rw [← hco] at HC2 HC3 HY1
          rw [← hco]
          have HLen : Hid ((gs ++ (l1.take i).flatMap codeS).length + (codeS co).length ≤ 1099511627) := Lib.hid (by rw [hco]; exact HL2.out i hlt)
          clear hco
          obtain ⟨zg, hzg⟩ : ∃ zg, zg = gs ++ (l1.take i).flatMap codeS := ⟨_, rfl⟩
          have HZg := Lib.hid hzg
          rw [← hzg] at HO HLen
          clear hzg
          have HLz : Hid (zg.length + 8 + (co.f2.flatMap insS).length + (co.f3.flatMap mapS).length ≤ 1099511627) := Lib.hid (by
            have h1 := HLen.out
            simp only [codeS, List.length_append, twosB_len, List.length_cons, List.length_nil] at h1
            omega)
          have z0 := (blk_cell HY1.out 0).trans rfl
          have z1 := (blk_cell HY1.out 1).trans rfl
          have z2 := (blk_cell HY1.out 2).trans rfl
          have z3 := (blk_cell HY1.out 3).trans rfl
          have HBrd : Hid (Below wr.heap.size wr w8.drew) := Lib.hid (below_drew1 HBr.out)
          have HOp0 := Lib.hid (HO.out.below HBrd.out)
          have HBp0 := Lib.hid (below_step HB.out HBrd.out)
          have HXp0 := Lib.hid (blk_below HX.out HBrd.out)
          have HYp0 : Hid (w8.drew.heap[g1]? = some (.cells #[.int .i64 co.f0, .int .i64 co.f1, .slice A2 co.f2.length c2, .slice A3 co.f3.length c3] 53 (0, 0))) := HY1
          clear HO HB HX HBr HBrd
          go_region_held3 (fun w' => w'.cell? ⟨g1, 0, none⟩ = some (.int .i64 co.f0) ∧ w'.cell? ⟨g1, 1, none⟩ = some (.int .i64 co.f1) ∧ w'.cell? ⟨g1, 2, none⟩ = some (.slice A2 co.f2.length c2) ∧ w'.cell? ⟨g1, 3, none⟩ = some (.slice A3 co.f3.length c3)) (first | go_keep | exact four HYp1.out | exact four HYp2.out | exact four HYp3.out | exact four HYp4.out) (first
            | (go_at_call 49; refine (two_c w (.slice P3 pm3 pc3) _ (co.f3.length : Int) _ HBp3.out HOp3.out (by have := HLz.out; (try simp only [List.length_append, twoB_len]); omega)).mono ?_; rintro e u4 ⟨v4, rfl, h1, h2, h3⟩; obtain ⟨P4, pm4, pc4, rfl⟩ := h1.any; have HOp4 := Lib.hid h1; have HBp4 := Lib.hid h2; have HXp4 := Lib.hid (h3 _ _ _ (by decide) HXp3.out); have HYp4 := Lib.hid (h3 _ _ _ (by decide) HYp3.out); clear h1 h2 h3)
            | (go_at_call 49; refine (two_c w (.slice P2 pm2 pc2) _ (co.f2.length : Int) _ HBp2.out HOp2.out (by have := HLz.out; (try simp only [List.length_append, twoB_len]); omega)).mono ?_; rintro e u3 ⟨v3, rfl, h1, h2, h3⟩; obtain ⟨P3, pm3, pc3, rfl⟩ := h1.any; have HOp3 := Lib.hid h1; have HBp3 := Lib.hid h2; have HXp3 := Lib.hid (h3 _ _ _ (by decide) HXp2.out); have HYp3 := Lib.hid (h3 _ _ _ (by decide) HYp2.out); clear h1 h2 h3)
            | (go_at_call 49; refine (two_c w (.slice P1 pm1 pc1) _ co.f1 _ HBp1.out HOp1.out (by have := HLz.out; (try simp only [List.length_append, twoB_len]); omega)).mono ?_; rintro e u2 ⟨v2, rfl, h1, h2, h3⟩; obtain ⟨P2, pm2, pc2, rfl⟩ := h1.any; have HOp2 := Lib.hid h1; have HBp2 := Lib.hid h2; have HXp2 := Lib.hid (h3 _ _ _ (by decide) HXp1.out); have HYp2 := Lib.hid (h3 _ _ _ (by decide) HYp1.out); clear h1 h2 h3)
            | (go_at_call 49; refine (two_c w (.slice B1 m1 d1) _ co.f0 _ HBp0.out HOp0.out (by have := HLz.out; (try simp only [List.length_append, twoB_len]); omega)).mono ?_; rintro e u1 ⟨v1, rfl, h1, h2, h3⟩; obtain ⟨P1, pm1, pc1, rfl⟩ := h1.any; have HOp1 := Lib.hid h1; have HBp1 := Lib.hid h2; have HXp1 := Lib.hid (h3 _ _ _ (by decide) HXp0.out); have HYp1 := Lib.hid (h3 _ _ _ (by decide) HYp0.out); clear h1 h2 h3))
          obtain ⟨zs, hzs⟩ : ∃ zs, zs = zg ++ twosB [co.f0, co.f1, (co.f2.length : Int), (co.f3.length : Int)] := ⟨_, rfl⟩
          have HZ := Lib.hid hzs
          have HOz : Hid (OwnB u4 w.heap.size (.slice P4 pm4 pc4) zs) := Lib.hid (by
            have h5 := HOp4.out
            rw [hzs]
            simp only [twosB, List.append_nil, List.append_assoc] at h5 ⊢
            exact h5)
          have HZl : Hid (zs.length + (co.f2.flatMap insS).length + (co.f3.flatMap mapS).length ≤ 1099511627) := Lib.hid (by
            have h1 := HLz.out
            rw [hzs, List.length_append, twosB_len]
            simp only [List.length_cons, List.length_nil]
            omega)
          have hn2 : co.f2.length ≤ 1099511627 := by have h1 := HZl.out; have h2 := flat_count co.f2 insS 1 (fun x => by simp [insS]); omega
          have hn3 : co.f3.length ≤ 1099511627 := by have h1 := HZl.out; have h2 := flat_count co.f3 mapS 1 (fun x => by simp only [mapS, List.length_append, twosB_len, List.length_cons]; omega); omega
          clear hzs HOp1 HBp1 HXp1 HYp1 HOp2 HBp2 HXp2 HYp2 HOp3 HBp3 HXp3 HYp3 HOp4 HOp0 HBp0 HXp0 HYp0 z0 z1 z2 z3 HY1
          have z2 := (blk_cell HYp4.out 2).trans rfl
          have z3 := (blk_cell HYp4.out 3).trans rfl
          go_wp2
          clear z2 z3
          go_loopw [3, 8] (fun v3 v8 wr => ∃ k : Nat, v8 = .int .i64 k ∧ k ≤ co.f2.length ∧ Hid (OwnB wr w.heap.size v3 (zs ++ (co.f2.take k).flatMap insS)) ∧ Hid (Below w.heap.size w wr) ∧ Hid (wr.heap[gb]? = some (.cells #[.slice A0 l0.length c0, .slice (some ad) l1.length c1, .int .i64 a2] 30 (0, 0))) ∧ Hid (wr.heap[g1]? = some (.cells #[.int .i64 co.f0, .int .i64 co.f1, .slice A2 co.f2.length c2, .slice A3 co.f3.length c3] 53 (0, 0)))) (fun _ v8 _ => (co.f2.length - intOf v8).toNat)
          case atStart => exact ⟨0, rfl, by omega, Lib.hid (by rw [List.take_zero, List.flatMap_nil, List.append_nil]; exact HOz.out), HBp4, HXp4, HYp4⟩
          case round =>
            clear HOz HBp4 HXp4 HYp4
            obtain ⟨k, rfl, hk, HO, HB, HX, HY⟩ := hrel
            obtain ⟨B5, m5, d5, rfl⟩ := HO.out.any
            have y2 := (blk_cell HY.out 2).trans rfl
            by_cases hlk : k < co.f2.length
            · have p1 : (0 : Int) ≤ (k : Int) := by omega
              have q1 : (k : Int) < (co.f2.length : Int) := by omega
              obtain ⟨ak, e1, x0, x1, x2, x3, x4⟩ := at_T68 HC2.out k p1 q1
              subst e1
              rw [Int.toNat_natCast] at x0 x1 x2 x3 x4
              replace x0 := pw_cell_below HB.out x0
              replace x1 := pw_cell_below HB.out x1
              replace x2 := pw_cell_below HB.out x2
              replace x3 := pw_cell_below HB.out x3
              replace x4 := pw_cell_below HB.out x4
              have hu68 := Try.underlying68
              go_upto_region 19 with ((with_reducible refine gate_dst (N := 9) rfl ?_); refine box_event ?hg (N := 9) ?hd (cs := #[.int .i64 0, .int .i64 0, .int .i64 0, .int .i64 0, .int .i64 0]) (t := 68) ?hr ?_; (case hd => rfl); (case hg => rfl); (case hr => first | (go_simp; done) | (go_simp; rfl)); intro g2 hg w6 hbox hb; have hgq := Nat.le_of_eq hg.symm; clear hg; replace x0 := pw_cell_below hb x0; replace x1 := pw_cell_below hb x1; replace x2 := pw_cell_below hb x2; replace x3 := pw_cell_below hb x3; replace x4 := pw_cell_below hb x4; replace y2 := pw_cell_below hb y2; have z0 := (blk_cell hbox 0).trans rfl; have z1 := (blk_cell hbox 1).trans rfl; have z2 := (blk_cell hbox 2).trans rfl; have z3 := (blk_cell hbox 3).trans rfl; have z4 := (blk_cell hbox 4).trans rfl; have f0 := blk_frozen hbox 0; have f1 := blk_frozen hbox 1; have f2 := blk_frozen hbox 2; have f3 := blk_frozen hbox 3; have f4 := blk_frozen hbox 4; have HB6 := Lib.hid hb; have HBX := Lib.hid hbox; have HG1 := Lib.hid hgq; clear hbox hb hgq)
              clear x0 x1 x2 x3 x4 z0 z1 z2 z3 z4 f0 f1 f2 f3 f4 hu68 y2
              have HBr : Hid (Below wr.heap.size wr (((((w6.setCell ⟨g2, 0, none⟩ (.int .i64 (rd_T68 co.f2 k).f0)).setCell ⟨g2, 1, none⟩ (.int .i64 (rd_T68 co.f2 k).f1)).setCell ⟨g2, 2, none⟩ (.int .i64 (rd_T68 co.f2 k).f2)).setCell ⟨g2, 3, none⟩ (.int .i64 (rd_T68 co.f2 k).f3)).setCell ⟨g2, 4, none⟩ (.int .i64 (rd_T68 co.f2 k).f4))) := Lib.hid (below_set (below_set (below_set (below_set (below_set HB6.out HG1.out) HG1.out) HG1.out) HG1.out) HG1.out)
              have HX1 : Hid ((((((w6.setCell ⟨g2, 0, none⟩ (.int .i64 (rd_T68 co.f2 k).f0)).setCell ⟨g2, 1, none⟩ (.int .i64 (rd_T68 co.f2 k).f1)).setCell ⟨g2, 2, none⟩ (.int .i64 (rd_T68 co.f2 k).f2)).setCell ⟨g2, 3, none⟩ (.int .i64 (rd_T68 co.f2 k).f3)).setCell ⟨g2, 4, none⟩ (.int .i64 (rd_T68 co.f2 k).f4)).heap[g2]? = some (.cells #[.int .i64 (rd_T68 co.f2 k).f0, .int .i64 (rd_T68 co.f2 k).f1, .int .i64 (rd_T68 co.f2 k).f2, .int .i64 (rd_T68 co.f2 k).f3, .int .i64 (rd_T68 co.f2 k).f4] 68 (0, 0))) := Lib.hid (by simpa using blk_set (blk_set (blk_set (blk_set (blk_set HBX.out 0 (.int .i64 (rd_T68 co.f2 k).f0)) 1 (.int .i64 (rd_T68 co.f2 k).f1)) 2 (.int .i64 (rd_T68 co.f2 k).f2)) 3 (.int .i64 (rd_T68 co.f2 k).f3)) 4 (.int .i64 (rd_T68 co.f2 k).f4))
              generalize (((((w6.setCell ⟨g2, 0, none⟩ (.int .i64 (rd_T68 co.f2 k).f0)).setCell ⟨g2, 1, none⟩ (.int .i64 (rd_T68 co.f2 k).f1)).setCell ⟨g2, 2, none⟩ (.int .i64 (rd_T68 co.f2 k).f2)).setCell ⟨g2, 3, none⟩ (.int .i64 (rd_T68 co.f2 k).f3)).setCell ⟨g2, 4, none⟩ (.int .i64 (rd_T68 co.f2 k).f4)) = w8 at HBr HX1 ⊢
              clear HB6 HBX HG1
              have HO8 := Lib.hid (HO.out.below HBr.out)
              have HB8 := Lib.hid (below_step HB.out HBr.out)
              have HX8 := Lib.hid (blk_below HX.out HBr.out)
              have HY8 := Lib.hid (blk_below HY.out HBr.out)
              clear HO HB HX HY HBr
              obtain ⟨xo, hxo⟩ : ∃ xo, xo = rd_T68 co.f2 k := ⟨_, rfl⟩
              have HS : Hid (zs ++ (co.f2.take (k + 1)).flatMap insS = (zs ++ (co.f2.take k).flatMap insS) ++ insS xo) := Lib.hid (by
                have h8 : rd_T68 co.f2 k = co.f2.getD k z68 := by unfold rd_T68; rw [Int.toNat_natCast]
                rw [flat_succ co.f2 z68 insS hlk, hxo, h8, List.append_assoc])
              rw [← hxo] at HX1
              rw [← hxo]
              clear hxo
              obtain ⟨zj, hzj⟩ : ∃ zj, zj = zs ++ (co.f2.take k).flatMap insS := ⟨_, rfl⟩
              have HZj : Hid (zj.length ≤ 1099511627) := Lib.hid (by
                have h1 := HZl.out
                have h2 := flat_le co.f2 insS k
                rw [hzj, List.length_append]
                omega)
              rw [← hzj] at HO8 HS
              clear hzj
              have z0 := (blk_cell HX1.out 0).trans rfl
              have z1 := (blk_cell HX1.out 1).trans rfl
              have z2 := (blk_cell HX1.out 2).trans rfl
              have z3 := (blk_cell HX1.out 3).trans rfl
              go_wp2_with ((with_reducible refine gate_builtin (b := .append) (xs := #[.tmp 103, .tmp 116]) rfl ?_); at_builtin; refine app_list (by rfl) (.tmp 103) (.tmp 116) (by rfl) w _ (.slice B5 m5 d5) zj [xo.f0 % 256, xo.f1 % 256, xo.f2 % 256, xo.f3 % 256] (0, 0) (by rfl) (by rfl) (Nat.succ_pos _) HO8.out HB8.out (by have := HZj.out; simp only [List.length_cons, List.length_nil]; omega) ?_; intro v5 w5 h1 h2 h3; have HO5 := Lib.hid h1; have HB5 := Lib.hid h2; have HX5 := Lib.hid (h3 _ _ _ (by decide) HX8.out); have HY5 := Lib.hid (h3 _ _ _ (by decide) HY8.out); have HZ5 := Lib.hid (h3 _ _ _ (by decide) HX1.out); clear h1 h2 h3 z0 z1 z2 z3)
              clear HO8 HB8 HX8 HY8 HX1
              go_loopw [3, 10] (fun v3 v10 wr => ∃ j : Nat, v10 = .int .i64 j ∧ j ≤ 8 ∧ Hid (OwnB wr w.heap.size v3 ((zj ++ [xo.f0 % 256, xo.f1 % 256, xo.f2 % 256, xo.f3 % 256]) ++ bytesU xo.f4 j)) ∧ Hid (Below w.heap.size w wr) ∧ Hid (wr.heap[gb]? = some (.cells #[.slice A0 l0.length c0, .slice (some ad) l1.length c1, .int .i64 a2] 30 (0, 0))) ∧ Hid (wr.heap[g1]? = some (.cells #[.int .i64 co.f0, .int .i64 co.f1, .slice (some ak) co.f2.length c2, .slice A3 co.f3.length c3] 53 (0, 0))) ∧ Hid (wr.heap[g2]? = some (.cells #[.int .i64 xo.f0, .int .i64 xo.f1, .int .i64 xo.f2, .int .i64 xo.f3, .int .i64 xo.f4] 68 (0, 0)))) (fun _ v10 _ => (8 - intOf v10).toNat)
              case atStart => exact ⟨0, rfl, by omega, Lib.hid (by rw [bytesU, List.append_nil]; exact HO5.out), HB5, HX5, HY5, HZ5⟩
              case round =>
                clear HO5 HB5 HX5 HY5 HZ5
                obtain ⟨j, rfl, hj, HO, HB, HX, HY, HZb⟩ := hrel
                obtain ⟨B7, m7, d7, rfl⟩ := HO.out.any
                have z4 := (blk_cell HZb.out 4).trans rfl
                by_cases hlj : j < 8
                · obtain ⟨ji, hji⟩ : ∃ ji : Int, ji = 8 * (j : Int) := ⟨_, rfl⟩
                  have e1 : IntKind.i64.wrap (8 * (j : Int)) = ji := by rw [i64_w, hji]; unfold wrap64; omega
                  have e2 : (0 : Int) ≤ ji := by omega
                  have e3 : decide ((0 : Int) ≤ ji) = true := decide_eq_true e2
                  obtain ⟨q, hq⟩ : ∃ q, IntKind.u64.wrap xo.f4 / 2 ^ min ji.toNat 64 = q := ⟨_, rfl⟩
                  have e4 : IntKind.u64.wrap xo.f4 / 2 ^ ji.toNat = q := by rw [← hq, Nat.min_eq_left (by omega)]
                  have HE : Hid (((zj ++ [xo.f0 % 256, xo.f1 % 256, xo.f2 % 256, xo.f3 % 256]) ++ bytesU xo.f4 j) ++ [q % 256] = (zj ++ [xo.f0 % 256, xo.f1 % 256, xo.f2 % 256, xo.f3 % 256]) ++ bytesU xo.f4 (j + 1)) := Lib.hid (by
                    have e5 : ji.toNat = 8 * j := by omega
                    rw [bytesU, byteU, ← e5, e4, List.append_assoc])
                  have e6 : ji ≤ 64 := by omega
                  obtain ⟨zk, hzk⟩ : ∃ zk, zk = (zj ++ [xo.f0 % 256, xo.f1 % 256, xo.f2 % 256, xo.f3 % 256]) ++ bytesU xo.f4 j := ⟨_, rfl⟩
                  have HZk : Hid (zk.length ≤ 1099511627 + 16) := Lib.hid (by
                    have := HZj.out
                    rw [hzk, List.length_append, bytesU_len, List.length_append]
                    simp only [List.length_cons, List.length_nil]
                    omega)
                  rw [← hzk] at HO HE
                  clear hji hzk
                  go_wp2_with ((with_reducible refine gate_builtin (b := .append) (xs := #[.tmp 122, .tmp 130]) rfl ?_); at_builtin; refine app_list (by rfl) (.tmp 122) (.tmp 130) (by rfl) w _ (.slice B7 m7 d7) zk [q % 256] (0, 0) (by rfl) (by rfl) (Nat.succ_pos _) HO.out HB.out (by have := HZk.out; simp only [List.length_cons, List.length_nil]; omega) ?_; intro v5 w5 h1 h2 h3; have HO5 := Lib.hid h1; have HB5 := Lib.hid h2; have HX5 := Lib.hid (h3 _ _ _ (by decide) HX.out); have HY5 := Lib.hid (h3 _ _ _ (by decide) HY.out); have HZ5 := Lib.hid (h3 _ _ _ (by decide) HZb.out); clear h1 h2 h3 z4)
                  have HO6 : Hid (OwnB w5 w.heap.size v5 ((zj ++ [xo.f0 % 256, xo.f1 % 256, xo.f2 % 256, xo.f3 % 256]) ++ bytesU xo.f4 (j + 1))) := Lib.hid (by
                    have h5 := HO5.out
                    rwa [HE.out] at h5)
                  clear HO HB HX HY HZb HO5 e1 e2 e3 e4 hq
                  go_roundw
                  case rel => exact ⟨j + 1, by go_num, by omega, HO6, HB5, HX5, HY5, HZ5⟩
                  case measure => simp [intOf]; omega
                · obtain rfl : j = 8 := by omega
                  have HO6 : Hid (OwnB wr w.heap.size (.slice B7 m7 d7) (zs ++ (co.f2.take (k + 1)).flatMap insS)) := Lib.hid (by
                    have h5 := HO.out
                    rw [List.append_assoc] at h5
                    rw [HS.out]
                    exact h5)
                  clear HO HZb z4
                  go_wp2
                  go_roundw
                  case rel => exact ⟨k + 1, by go_num, by omega, HO6, HB, HX, HY⟩
                  case measure => simp [intOf]; omega
            · obtain rfl : k = co.f2.length := by omega
              have HZ2 : Hid (OwnB wr w.heap.size (.slice B5 m5 d5) (zs ++ co.f2.flatMap insS)) := Lib.hid (by have := HO.out; rwa [List.take_length] at this)
              clear HO HC2
              go_wp2
              clear y2
              obtain ⟨ys, hys⟩ : ∃ ys, ys = zs ++ co.f2.flatMap insS := ⟨_, rfl⟩
              have HYs := Lib.hid hys
              rw [← hys] at HZ2
              have HYl : Hid (ys.length + (co.f3.flatMap mapS).length ≤ 1099511627) := Lib.hid (by
                have h1 := HZl.out
                rw [hys, List.length_append]
                omega)
              clear hys
              go_loopw [3, 11] (fun v3 v11 wr => ∃ k : Nat, v11 = .int .i64 k ∧ k ≤ co.f3.length ∧ Hid (OwnB wr w.heap.size v3 (ys ++ (co.f3.take k).flatMap mapS)) ∧ Hid (Below w.heap.size w wr) ∧ Hid (wr.heap[gb]? = some (.cells #[.slice A0 l0.length c0, .slice (some ad) l1.length c1, .int .i64 a2] 30 (0, 0))) ∧ Hid (wr.heap[g1]? = some (.cells #[.int .i64 co.f0, .int .i64 co.f1, .slice A2 co.f2.length c2, .slice A3 co.f3.length c3] 53 (0, 0)))) (fun _ v11 _ => (co.f3.length - intOf v11).toNat)
              case atStart => exact ⟨0, rfl, by omega, Lib.hid (by rw [List.take_zero, List.flatMap_nil, List.append_nil]; exact HZ2.out), HB, HX, HY⟩
              case round =>
                clear HZ2 HB HX HY
                obtain ⟨k, rfl, hk, HO, HB, HX, HY⟩ := hrel
                obtain ⟨B6, m6, d6, rfl⟩ := HO.out.any
                have y3 := (blk_cell HY.out 3).trans rfl
                by_cases hlk : k < co.f3.length
                · have p1 : (0 : Int) ≤ (k : Int) := by omega
                  have q1 : (k : Int) < (co.f3.length : Int) := by omega
                  obtain ⟨ak, A1s, c1s, e1, x0, x1, _, x2⟩ := at_T72 HC3.out k p1 q1
                  subst e1
                  rw [Int.toNat_natCast] at x0 x1
                  have HSl := Lib.hid x2
                  clear x2
                  go_upto_region 27 with fail
                  obtain ⟨xo, hxo⟩ : ∃ xo, xo = rd_T72 co.f3 k := ⟨_, rfl⟩
                  have HLk0 : Hid ((ys ++ (co.f3.take k).flatMap mapS).length + (mapS xo).length ≤ 1099511627) := Lib.hid (by
                    have h7 := flat_lt co.f3 z72 mapS hlk
                    have h8 : rd_T72 co.f3 k = co.f3.getD k z72 := by unfold rd_T72; rw [Int.toNat_natCast]
                    have h9 := HYl.out
                    rw [hxo, h8, List.length_append]
                    omega)
                  have HS : Hid (ys ++ (co.f3.take (k + 1)).flatMap mapS = (ys ++ (co.f3.take k).flatMap mapS) ++ mapS xo) := Lib.hid (by
                    have h8 : rd_T72 co.f3 k = co.f3.getD k z72 := by unfold rd_T72; rw [Int.toNat_natCast]
                    rw [flat_succ co.f3 z72 mapS hlk, hxo, h8, List.append_assoc])
                  rw [← hxo] at x0 x1 HSl
                  clear hxo
                  have HE0 := Lib.hid x0
                  have HE1 := Lib.hid x1
                  clear x0 x1
                  obtain ⟨zj, hzj⟩ : ∃ zj, zj = ys ++ (co.f3.take k).flatMap mapS := ⟨_, rfl⟩
                  rw [← hzj] at HO HS HLk0
                  clear hzj
                  have HLk : Hid (zj.length + 4 + 2 * xo.f1.length ≤ 1099511627) := Lib.hid (by
                    have h1 := HLk0.out
                    simp only [mapS, List.length_append, twosB_len, List.length_cons, List.length_nil] at h1
                    omega)
                  have hbl : xo.f1.length ≤ 1099511627 := by have := HLk.out; omega
                  have HBrd : Hid (Below wr.heap.size wr wr.drew) := Lib.hid (below_drew1 (Below.refl _ _))
                  have HOp0 := Lib.hid (HO.out.below HBrd.out)
                  have HBp0 := Lib.hid (below_step HB.out HBrd.out)
                  have HXp0 := Lib.hid (blk_below HX.out HBrd.out)
                  have HYp0 := Lib.hid (blk_below HY.out HBrd.out)
                  clear HO HB HX HY HBrd HLk0
                  go_region_held3 (fun w' => w'.cell? ⟨g1, 3, none⟩ = some (.slice (some ak) co.f3.length c3) ∧ w'.cell? (ak.add (k * 2)) = some (.int .i64 xo.f0) ∧ w'.cell? ⟨(ak.add (k * 2)).block, (ak.add (k * 2)).off + 1, none⟩ = some (.slice A1s xo.f1.length c1s)) (first | exact ⟨(blk_cell HYp0.out 3).trans rfl, pw_cell_below HBp0.out HE0.out, pw_cell_below HBp0.out HE1.out⟩ | exact ⟨(blk_cell HYp1.out 3).trans rfl, pw_cell_below HBp1.out HE0.out, pw_cell_below HBp1.out HE1.out⟩ | exact ⟨(blk_cell HYp2.out 3).trans rfl, pw_cell_below HBp2.out HE0.out, pw_cell_below HBp2.out HE1.out⟩) (first
                    | (go_at_call 49; refine (two_c w (.slice P1 pm1 pc1) _ (xo.f1.length : Int) _ HBp1.out HOp1.out (by have := HLk.out; (try simp only [List.length_append, twoB_len]); omega)).mono ?_; rintro e u2 ⟨v2, rfl, h1, h2, h3⟩; obtain ⟨P2, pm2, pc2, rfl⟩ := h1.any; have HOp2 := Lib.hid h1; have HBp2 := Lib.hid h2; have HXp2 := Lib.hid (h3 _ _ _ (by decide) HXp1.out); have HYp2 := Lib.hid (h3 _ _ _ (by decide) HYp1.out); clear h1 h2 h3)
                    | (go_at_call 49; refine (two_c w (.slice B6 m6 d6) _ xo.f0 _ HBp0.out HOp0.out (by have := HLk.out; (try simp only [List.length_append, twoB_len]); omega)).mono ?_; rintro e u1 ⟨v1, rfl, h1, h2, h3⟩; obtain ⟨P1, pm1, pc1, rfl⟩ := h1.any; have HOp1 := Lib.hid h1; have HBp1 := Lib.hid h2; have HXp1 := Lib.hid (h3 _ _ _ (by decide) HXp0.out); have HYp1 := Lib.hid (h3 _ _ _ (by decide) HYp0.out); clear h1 h2 h3))
                  have HOz : Hid (OwnB u2 w.heap.size (.slice P2 pm2 pc2) (zj ++ twosB [xo.f0, (xo.f1.length : Int)])) := Lib.hid (by
                    have h5 := HOp2.out
                    simp only [twosB, List.append_nil, List.append_assoc] at h5 ⊢
                    exact h5)
                  clear HOp0 HBp0 HXp0 HYp0 HOp1 HBp1 HXp1 HYp1 HOp2 y3
                  obtain ⟨zk, hzk⟩ : ∃ zk, zk = zj ++ twosB [xo.f0, (xo.f1.length : Int)] := ⟨_, rfl⟩
                  have HZk := Lib.hid hzk
                  rw [← hzk] at HOz
                  have HLz : Hid (zk.length + 2 * xo.f1.length ≤ 1099511627) := Lib.hid (by
                    have := HLk.out
                    rw [hzk, List.length_append, twosB_len]
                    simp only [List.length_cons, List.length_nil]
                    omega)
                  clear hzk
                  go_wp2
                  go_loopw [3, 12] (fun v3 v12 wr => ∃ j : Nat, v12 = .int .i64 j ∧ j ≤ xo.f1.length ∧ Hid (OwnB wr w.heap.size v3 (zk ++ twosB (xo.f1.take j))) ∧ Hid (Below w.heap.size w wr) ∧ Hid (wr.heap[gb]? = some (.cells #[.slice A0 l0.length c0, .slice (some ad) l1.length c1, .int .i64 a2] 30 (0, 0))) ∧ Hid (wr.heap[g1]? = some (.cells #[.int .i64 co.f0, .int .i64 co.f1, .slice A2 co.f2.length c2, .slice (some ak) co.f3.length c3] 53 (0, 0)))) (fun _ v12 _ => (xo.f1.length - intOf v12).toNat)
                  case atStart => exact ⟨0, rfl, by omega, Lib.hid (by rw [List.take_zero, twosB, List.append_nil]; exact HOz.out), HBp2, HXp2, HYp2⟩
                  case round =>
                    clear HOz HBp2 HXp2 HYp2
                    obtain ⟨j, rfl, hj, HO, HB, HX, HY⟩ := hrel
                    obtain ⟨B7, m7, d7, rfl⟩ := HO.out.any
                    have y3 := (blk_cell HY.out 3).trans rfl
                    have x1 := pw_cell_below HB.out HE1.out
                    by_cases hlj : j < xo.f1.length
                    · have p2 : (0 : Int) ≤ (j : Int) := by omega
                      have q2 : (j : Int) < (xo.f1.length : Int) := by omega
                      obtain ⟨am, e1, x2⟩ := Kd.at_int HSl.out j p2 q2
                      subst e1
                      rw [Int.toNat_natCast] at x2
                      replace x2 := pw_cell_below HB.out x2
                      have HEs : Hid (zk ++ twosB (xo.f1.take (j + 1)) = (zk ++ twosB (xo.f1.take j)) ++ twoB (rd xo.f1 j)) := Lib.hid (by
                        have e : xo.f1.take (j + 1) = xo.f1.take j ++ [rd xo.f1 j] := by
                          rw [take_succ_d xo.f1 0 hlj]
                          unfold rd
                          rw [Int.toNat_natCast]
                        rw [e, twosB_snoc, List.append_assoc])
                      go_wp2_with fail
                      refine (two_c w (.slice B7 m7 d7) _ _ _ HB.out HO.out (by have := HLz.out; rw [List.length_append, twosB_len, List.length_take]; omega)).mono ?_
                      rintro e w5 ⟨v5, rfl, h1, h2, h3⟩
                      have HO5 : Hid (OwnB w5 w.heap.size v5 (zk ++ twosB (xo.f1.take (j + 1)))) := Lib.hid (by rw [HEs.out]; exact h1)
                      have HB5 := Lib.hid h2
                      have HX5 := Lib.hid (h3 _ _ _ (by decide) HX.out)
                      have HY5 := Lib.hid (h3 _ _ _ (by decide) HY.out)
                      clear h1 h2 h3 HO HB HX HY y3 x1 x2
                      go_wp2
                      go_roundw
                      case rel => exact ⟨j + 1, by go_num, by omega, HO5, HB5, HX5, HY5⟩
                      case measure => simp [intOf]; omega
                    · obtain rfl : j = xo.f1.length := by omega
                      have HO6 : Hid (OwnB wr w.heap.size (.slice B7 m7 d7) (ys ++ (co.f3.take (k + 1)).flatMap mapS)) := Lib.hid (by
                        have h5 := HO.out
                        rw [List.take_length, HZk.out, List.append_assoc] at h5
                        rw [HS.out]
                        exact h5)
                      clear HO
                      go_wp2
                      clear y3 x1
                      go_roundw
                      case rel => exact ⟨k + 1, by go_num, by omega, HO6, HB, HX, HY⟩
                      case measure => simp [intOf]; omega
                · obtain rfl : k = co.f3.length := by omega
                  have HP11 : Hid (OwnB wr w.heap.size (.slice B6 m6 d6) (gs ++ (l1.take (i + 1)).flatMap codeS)) := Lib.hid (by
                    rw [flat_succ l1 z53 codeS hlt, ← rd53_get, ← HCo.out, ← List.append_assoc]
                    have h1 := HO.out
                    rw [List.take_length, HYs.out, HZ.out, HZg.out] at h1
                    simp only [codeS, ← List.append_assoc] at h1 ⊢
                    exact h1)
                  clear HO
                  go_wp2
                  clear y3
                  go_roundw
                  case rel => exact ⟨i + 1, by go_num, by omega, HP11, HB, HX⟩
                  case measure => simp [intOf]; omega
        · obtain rfl : i = l1.length := by omega
          have HP12 : Hid (OwnB wr w.heap.size (.slice B1 m1 d1) (imgS l0 l1 a2)) := Lib.hid (by
            have h1 := HO.out
            rw [List.take_length, HGs.out, HH.out] at h1
            exact h1)
          clear HO
          go_wp2
          go_ret
          exact ⟨_, rfl, HP12.out, HB.out⟩

end Go.Proofs.Ytkfeoilnhpfknaa.ImFnExactImageRead
