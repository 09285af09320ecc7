/- The contract of (*impl.Image).bytes. -/
import Derived.Test.YtkfeoilnhpfknaaImmFnExactImageRead
import Derived.Deep.RegionHeld3
import Derived.Deep.DrawnRows
import Derived.Deep.RegionLaw
namespace Go.Proofs.Ytkfeoilnhpfknaa.ImFnExactImageRead
open Go.RowKit Go.Proofs.Ytkfeoilnhpfknaa.QFnExactImageRead Go.Proofs.YtkfeoilnhpfknaaW.PrintWords Go.Proofs.YtkfeoilnhpfknaaW.PrintLast
set_option linter.unusedSimpArgs false
attribute [local go_sem ↓] Go.wp_at_zero Go.wp_at_succ
attribute [local go_sem] Go.World.cell?_alloc_some

/-- An own row with these bytes. -/
def Bytes (w : World) (ys : List Int) (e : Ending) (w' : World) : Prop := ∃ v, e = .returned v ∧ OwnB w' w.heap.size v ys ∧ Below w.heap.size w w'

set_option maxHeartbeats 8000000 in
set_option maxRecDepth 100000 in
theorem bytes_c (g : Nat) (l0 : List (List Bool)) (l1 : List S53) (a2 : Int) (w : World) (hn0 : l0.length ≤ 1099511627776) (hn1 : l1.length ≤ 1099511627776) (hI : MemI w g l0 l1 a2) (hsz : (imgB l0 l1 a2).length ≤ 1099511627) :
    Calls Try.prog 31 #[.pointer (some ⟨g, 0, none⟩)] w (Bytes w (imgB l0 l1 a2)) := by
  have HI := Lib.hid hI
  clear hI
  have kc := fun (w : World) (C : Array Value) (n c : Nat) => Lib.run_convert_bytes_const (P := Try.prog) w 34 5 C n c Try.underlying34 Try.underlying5
  have hmf : ∀ (fn : Fn) (first cap : Array Value) (w : World), (Instr.makeFunc fn first cap).run Try.prog w = .ok (.func fn first cap) w := fun _ _ _ _ => rfl
  go_enter Try.func31, Try.ntmps31
  go_upto_region 3 with fail
  clear kc hmf
  have hb1 : Below w.heap.size w (w.alloc (.cells #[.int .u8 71, .int .u8 73] 5 (2, 3))) := below_alloc (Below.refl _ _) _
  have hs1 : (w.alloc (.cells #[.int .u8 71, .int .u8 73] 5 (2, 3))).heap.size = w.heap.size + 1 := Array.size_push ..
  have hF : Fresh (w.alloc (.cells #[.int .u8 71, .int .u8 73] 5 (2, 3))) w.heap.size (.slice (some ⟨w.heap.size, 0, none⟩) 2 2) [71, 73] := ⟨rfl, w.heap.size, rfl, Nat.le_refl _, by decide, by simpa using heap_alloc_new w _⟩
  have HB1 : Hid (Below w.heap.size w ((w.alloc (.cells #[.int .u8 71, .int .u8 73] 5 (2, 3))).alloc (.cells #[.slice (some ⟨w.heap.size, 0, none⟩) 2 2] 34))) := Lib.hid (below_alloc hb1 _)
  have HO1 : Hid (OwnB ((w.alloc (.cells #[.int .u8 71, .int .u8 73] 5 (2, 3))).alloc (.cells #[.slice (some ⟨w.heap.size, 0, none⟩) 2 2] 34)) w.heap.size (.slice (some ⟨w.heap.size, 0, none⟩) 2 2) [71, 73]) := Lib.hid (OwnB.below (.inr hF) (below_alloc (Below.refl _ _) _))
  have HX1 : Hid (((w.alloc (.cells #[.int .u8 71, .int .u8 73] 5 (2, 3))).alloc (.cells #[.slice (some ⟨w.heap.size, 0, none⟩) 2 2] 34)).heap[w.heap.size + 1]? = some (.cells #[.slice (some ⟨w.heap.size, 0, none⟩) 2 2] 34 (0, 0))) := Lib.hid (by rw [← hs1]; exact heap_alloc_new _ _)
  have HG : Hid (w.heap.size ≤ w.heap.size + 1) := Lib.hid (Nat.le_succ _)
  clear hb1 hs1 hF
  generalize (w.alloc (.cells #[.int .u8 71, .int .u8 73] 5 (2, 3))).alloc (.cells #[.slice (some ⟨w.heap.size, 0, none⟩) 2 2] 34) = w1 at HB1 HO1 HX1 ⊢
  generalize hgb : w.heap.size + 1 = gb at HX1 HG ⊢
  clear hgb
  generalize (Value.slice (some ⟨w.heap.size, 0, none⟩) 2 2) = v0 at HO1 HX1 ⊢
  obtain ⟨A0, c0, A1, c1, hI1, hI2, hI3⟩ := HI.out
  have y0 : w1.cell? ⟨g, 0, none⟩ = some (.slice A0 l0.length c0) := (blk_cell (blk_below hI1 HB1.out) 0).trans rfl
  have y1 : w1.cell? ⟨g, 1, none⟩ = some (.slice A1 l1.length c1) := (blk_cell (blk_below hI1 HB1.out) 1).trans rfl
  have y2 : w1.cell? ⟨g, 2, none⟩ = some (.int .i64 a2) := (blk_cell (blk_below hI1 HB1.out) 2).trans rfl
  have HI2 := Lib.hid hI2
  have HI3 := Lib.hid hI3
  have HK : Hid (∀ w', Below w.heap.size w w' → w'.cell? ⟨g, 0, none⟩ = some (.slice A0 l0.length c0) ∧ w'.cell? ⟨g, 1, none⟩ = some (.slice A1 l1.length c1) ∧ w'.cell? ⟨g, 2, none⟩ = some (.int .i64 a2)) := Lib.hid (fun w' hb => ⟨(blk_cell (blk_below hI1 hb) 0).trans rfl, (blk_cell (blk_below hI1 hb) 1).trans rfl, (blk_cell (blk_below hI1 hb) 2).trans rfl⟩)
  clear hI1 hI2 hI3
  go_region_held3 (fun w' => w'.cell? ⟨g, 0, none⟩ = some (.slice A0 l0.length c0) ∧ w'.cell? ⟨g, 1, none⟩ = some (.slice A1 l1.length c1) ∧ w'.cell? ⟨g, 2, none⟩ = some (.int .i64 a2)) (first | go_keep | exact HK.out _ h4)
    ((go_at_call 57; refine (put_lit w [(l0.length : Int), (l1.length : Int), a2] gb v0 [71, 73] w1.drew _ (below_drew1 HB1.out) HG.out HX1.out HO1.out (by simp) (by simp)).mono ?_; rintro e w2 ⟨v1, rfl, h2, h3, h4, h5, h6⟩))
  have HP : Hid (Out w w2 gb (headB l0 l1 a2)) := Lib.hid ⟨v1, h2, h3, h4⟩
  have z := HK.out _ h4
  clear h2 h3 h4 h5 h6 y0 y1 y2 HB1 HO1 HX1
  obtain ⟨y0, y1, _⟩ := z
  go_wp2
  clear y0 y1
  go_loopw [6, 40] (fun v6 v40 wr => ∃ i : Nat, v40 = .int .i64 i ∧ i ≤ l0.length ∧ Hid (Out w wr gb (headB l0 l1 a2 ++ (l0.take i).flatMap structB))) (fun _ v40 _ => (l0.length - intOf v40).toNat)
  case atStart => exact ⟨0, rfl, by omega, Lib.hid (by rw [List.take_zero, List.flatMap_nil, List.append_nil]; exact HP.out)⟩
  case round =>
    clear HP
    obtain ⟨i, rfl, hi, HP⟩ := hrel
    by_cases hlt : i < l0.length
    · have p0 : (0 : Int) ≤ (i : Int) := by omega
      have q0 : (i : Int) < (l0.length : Int) := by omega
      obtain ⟨ad, As, cs, e1, hx, _, hxs⟩ := at_L1 HI2.out i p0 q0
      subst e1
      rw [Int.toNat_natCast] at hx
      obtain ⟨vb, hb1, hb2, hb3⟩ := HP.out
      replace hx := pw_cell_below hb3 hx
      have HXS := Lib.hid hxs
      have H1 := Lib.hid hb1
      have H2 := Lib.hid hb2
      have H3 := Lib.hid hb3
      clear hxs hb1 hb2 hb3
      have HLen : Hid ((headB l0 l1 a2 ++ (l0.take i).flatMap structB).length + (structB (rd_L1 l0 i)).length ≤ 1099511627) := Lib.hid (by
        have h7 := flat_lt l0 ([] : List Bool) structB hlt
        have h8 : rd_L1 l0 i = l0.getD i [] := by unfold rd_L1; rw [Int.toNat_natCast]
        rw [h8]
        unfold imgB at hsz
        rw [List.length_append, List.length_append] at hsz
        rw [List.length_append]
        omega)
      go_wp2_with fail
      refine (put_lit w [((rd_L1 l0 i).length : Int)] gb vb _ wr (0, 0) H3.out HG.out H1.out H2.out (by simp) (by have := HLen.out; omega)).mono ?_
      rintro e w3 ⟨v3, rfl, h2, h3, h4, h5, h6⟩
      have HP3 : Hid (Out w w3 gb ((headB l0 l1 a2 ++ (l0.take i).flatMap structB) ++ putB [((rd_L1 l0 i).length : Int)])) := Lib.hid ⟨v3, h2, h3, h4⟩
      clear h2 h3 h4 h5 h6 H1 H2 H3 hx
      obtain ⟨zs, hzs⟩ : ∃ zs, zs = (headB l0 l1 a2 ++ (l0.take i).flatMap structB) ++ putB [((rd_L1 l0 i).length : Int)] := ⟨_, rfl⟩
      have HZ := Lib.hid hzs
      rw [← hzs] at HP3
      have HZl : Hid (2 < zs.length ∧ zs.length + (rd_L1 l0 i).length ≤ 1099511627) := Lib.hid (by
        have h1 := HLen.out
        rw [hzs]
        simp only [List.length_append, structB, putB_len, headB, List.length_map, List.length_cons, List.length_nil] at h1 ⊢
        omega)
      clear hzs
      obtain ⟨bs, hbs⟩ : ∃ bs, bs = rd_L1 l0 i := ⟨_, rfl⟩
      have HBs := Lib.hid hbs
      rw [← hbs] at HXS HZl ⊢
      clear hbs
      have hbl : bs.length ≤ 1099511627 := by have := HZl.out; omega
      go_wp2
      go_loopw [8, 51] (fun v8 v51 wr => ∃ j : Nat, v51 = .int .i64 j ∧ j ≤ bs.length ∧ Hid (Out w wr gb (zs ++ (bs.take j).map boolI))) (fun _ v51 _ => (bs.length - intOf v51).toNat)
      case atStart => exact ⟨0, rfl, by omega, Lib.hid (by rw [List.take_zero, List.map_nil, List.append_nil]; exact HP3.out)⟩
      case round =>
        clear HP3
        obtain ⟨j, rfl, hj, HPj⟩ := hrel
        by_cases hlj : j < bs.length
        · have p1 : (0 : Int) ≤ (j : Int) := by omega
          have q1 : (j : Int) < (bs.length : Int) := by omega
          obtain ⟨ab, e1, hy⟩ := Kd.at_bool HXS.out j p1 q1
          subst e1
          rw [Int.toNat_natCast] at hy
          obtain ⟨vj, hb1, hb2, hb3⟩ := HPj.out
          replace hy := pw_cell_below hb3 hy
          have H1 := Lib.hid hb1
          have H2 := Lib.hid hb2
          have H3 := Lib.hid hb3
          clear hb1 hb2 hb3 HPj
          have HS : Hid (zs ++ (bs.take (j + 1)).map boolI = (zs ++ (bs.take j).map boolI) ++ [boolI (rdOf false bs j)]) := Lib.hid (by rw [map_succ bs hlj, List.append_assoc])
          obtain ⟨bi, hbi⟩ : ∃ bi, bi = boolI (rdOf false bs j) := ⟨_, rfl⟩
          have HBi : Hid (bi % 256 = bi) := Lib.hid (by rw [hbi]; unfold boolI; split <;> rfl)
          have HC : Hid (∀ w', Calls Try.prog 59 #[.bool (rdOf false bs j)] w' fun e w'' => e = .returned (.int .i64 bi) ∧ w' = w'') := Lib.hid (fun w' => by rw [hbi]; exact truth_c _ w')
          rw [← hbi] at HS
          clear hbi
          obtain ⟨zj, hzj⟩ : ∃ zj, zj = zs ++ (bs.take j).map boolI := ⟨_, rfl⟩
          have HZj : Hid (2 < zj.length ∧ zj.length + 1 ≤ 1099511627) := Lib.hid (by
            have h1 := HZl.out
            rw [hzj]
            simp only [List.length_append, List.length_map, List.length_take]
            omega)
          rw [← hzj] at H2 HS
          clear hzj
          obtain ⟨Aj, nj, cj, rfl⟩ := H2.out.any
          have y0 : wr.cell? ⟨gb, 0, none⟩ = some (.slice Aj nj cj) := (blk_cell H1.out 0).trans rfl
          have f0 := blk_frozen H1.out 0
          have HO : Hid (OwnB wr.drew w.heap.size (.slice Aj nj cj) zj) := Lib.hid (H2.out.below (below_drew1 (Below.refl _ _)))
          have HB : Hid (Below w.heap.size w wr.drew) := Lib.hid (below_drew1 H3.out)
          have HX : Hid (wr.drew.heap[gb]? = some (.cells #[.slice Aj nj cj] 34 (0, 0))) := H1
          clear H1 H2 H3
          go_upto_region 11 with fail
          clear hy
          go_region_law (first
            | (go_simp; go_at_call 59; refine (HC.out _).mono ?_; rintro e w9 ⟨rfl, rfl⟩)
            | (refine app_step (by rfl) (.tmp 55) (.tmp 59) (by rfl) w wr.drew (.slice Aj nj cj) zj [bi % 256] (0, 0) (by rfl) (by rfl) HO.out HZj.out.1 HB.out (by have := HZj.out.2; rw [List.length_singleton]; omega) ?_; intro v5 w5 h1 h2 h3 h4; obtain ⟨A5, n5, c5, rfl⟩ := h1.any; have HX5 := Lib.hid (h3.blk HO.out HX.out (by decide)); have HO5 := Lib.hid h1; have HB5 := Lib.hid h2; clear h1 h2 h3 h4; have y5 := (blk_cell HX5.out 0).trans rfl; have f5 := blk_frozen HX5.out 0))
          all_goals
            have HP6 : Hid (Out w (w5.setCell ⟨gb, 0, none⟩ (.slice A5 n5 c5)) gb (zs ++ (bs.take (j + 1)).map boolI)) := Lib.hid (by
              have h5 := HO5.out
              rw [HBi.out, ← HS.out] at h5
              exact Out.set HG.out HX5.out h5 HB5.out)
            clear HO HB HX HX5 HO5 HB5 y5 f5 y0 f0 HC
            go_wp2
            go_roundw
            case rel => exact ⟨j + 1, by go_num, by omega, HP6⟩
            case measure => simp [intOf]; omega
        · obtain rfl : j = bs.length := by omega
          have HP7 : Hid (Out w wr gb (headB l0 l1 a2 ++ (l0.take (i + 1)).flatMap structB)) := Lib.hid (by
            have h1 := HPj.out
            rw [List.take_length, HZ.out, List.append_assoc, HBs.out] at h1
            rw [flat_succ l0 [] structB hlt, ← List.append_assoc]
            have h8 : rd_L1 l0 i = l0.getD i [] := by unfold rd_L1; rw [Int.toNat_natCast]
            rw [h8] at h1
            exact h1)
          clear HPj
          go_wp2
          go_roundw
          case rel => exact ⟨i + 1, by go_num, by omega, HP7⟩
          case measure => simp [intOf]; omega
    · obtain rfl : i = l0.length := by omega
      have HP1 : Hid (Out w wr gb (headB l0 l1 a2 ++ l0.flatMap structB)) := Lib.hid (by have := HP.out; rwa [List.take_length] at this)
      clear HP
      obtain ⟨y0, y1, _⟩ := HK.out _ HP1.out.below
      clear HI2
      go_wp2
      clear y0 y1
      obtain ⟨hs, hhs⟩ : ∃ hs, hs = headB l0 l1 a2 ++ l0.flatMap structB := ⟨_, rfl⟩
      have HH := Lib.hid hhs
      rw [← hhs] at HP1
      clear hhs
      go_loopw [10, 68] (fun v10 v68 wr => ∃ i : Nat, v68 = .int .i64 i ∧ i ≤ l1.length ∧ Hid (Out w wr gb (hs ++ (l1.take i).flatMap codeB))) (fun _ v68 _ => (l1.length - intOf v68).toNat)
      case atStart => exact ⟨0, rfl, by omega, Lib.hid (by rw [List.take_zero, List.flatMap_nil, List.append_nil]; exact HP1.out)⟩
      case round =>
        clear HP1
        obtain ⟨i, rfl, hi, HP⟩ := hrel
        by_cases hlt : i < l1.length
        · have p0 : (0 : Int) ≤ (i : Int) := by omega
          have q0 : (i : Int) < (l1.length : Int) := by omega
          obtain ⟨ad, A2, c2, A3, c3, e1, x0, x1, x2, x3, _, g2, _, g3⟩ := at_T53 HI3.out i p0 q0
          subst e1
          rw [Int.toNat_natCast] at x0 x1 x2 x3
          have hbq := HP.out.below
          replace x0 := pw_cell_below hbq x0
          replace x1 := pw_cell_below hbq x1
          replace x2 := pw_cell_below hbq x2
          replace x3 := pw_cell_below hbq x3
          have HC2 := Lib.hid g2
          have HC3 := Lib.hid g3
          clear g2 g3 hbq
          have hu53 := Try.underlying53
          go_upto_region 17 with (first | ((with_reducible refine gate_dst (N := 10) rfl ?_); refine box_event ?hg (N := 10) ?hd (cs := #[.int .i64 0, .int .i64 0, .slice none 0 0, .slice none 0 0]) (t := 53) ?hr ?_; (case hd => rfl); (case hg => rfl); (case hr => first | (go_simp; done) | (go_simp; rfl)); intro g1 hg w6 hbox hb; have hgq := Nat.le_of_eq hg.symm; clear hg; replace x0 := pw_cell_below hb x0; replace x1 := pw_cell_below hb x1; replace x2 := pw_cell_below hb x2; replace x3 := pw_cell_below hb x3; have z0 := (blk_cell hbox 0).trans rfl; have z1 := (blk_cell hbox 1).trans rfl; have z2 := (blk_cell hbox 2).trans rfl; have z3 := (blk_cell hbox 3).trans rfl; have f0 := blk_frozen hbox 0; have f1 := blk_frozen hbox 1; have f2 := blk_frozen hbox 2; have f3 := blk_frozen hbox 3; have HB6 := Lib.hid hb; have HBX := Lib.hid hbox; have HG1 := Lib.hid hgq; clear hbox hb hgq))
          clear x0 x1 x2 x3 z0 z1 z2 z3 f0 f1 f2 f3 hu53
          have HBr : Hid (Below wr.heap.size wr ((((w6.setCell ⟨g1, 0, none⟩ (.int .i64 (rd_T53 l1 i).f0)).setCell ⟨g1, 1, none⟩ (.int .i64 (rd_T53 l1 i).f1)).setCell ⟨g1, 2, none⟩ (.slice A2 (rd_T53 l1 i).f2.length c2)).setCell ⟨g1, 3, none⟩ (.slice A3 (rd_T53 l1 i).f3.length c3))) := Lib.hid (below_set (below_set (below_set (below_set HB6.out HG1.out) HG1.out) HG1.out) HG1.out)
          have HB1 : Hid (((((w6.setCell ⟨g1, 0, none⟩ (.int .i64 (rd_T53 l1 i).f0)).setCell ⟨g1, 1, none⟩ (.int .i64 (rd_T53 l1 i).f1)).setCell ⟨g1, 2, none⟩ (.slice A2 (rd_T53 l1 i).f2.length c2)).setCell ⟨g1, 3, none⟩ (.slice A3 (rd_T53 l1 i).f3.length c3)).heap[g1]? = some (.cells #[.int .i64 (rd_T53 l1 i).f0, .int .i64 (rd_T53 l1 i).f1, .slice A2 (rd_T53 l1 i).f2.length c2, .slice A3 (rd_T53 l1 i).f3.length c3] 53 (0, 0))) := Lib.hid (by simpa using blk_set (blk_set (blk_set (blk_set HBX.out 0 (.int .i64 (rd_T53 l1 i).f0)) 1 (.int .i64 (rd_T53 l1 i).f1)) 2 (.slice A2 (rd_T53 l1 i).f2.length c2)) 3 (.slice A3 (rd_T53 l1 i).f3.length c3))
          generalize ((((w6.setCell ⟨g1, 0, none⟩ (.int .i64 (rd_T53 l1 i).f0)).setCell ⟨g1, 1, none⟩ (.int .i64 (rd_T53 l1 i).f1)).setCell ⟨g1, 2, none⟩ (.slice A2 (rd_T53 l1 i).f2.length c2)).setCell ⟨g1, 3, none⟩ (.slice A3 (rd_T53 l1 i).f3.length c3)) = w8 at HBr HB1 ⊢
          clear HB6 HBX HG1
          have HP8 := Lib.hid (HP.out.grow HBr.out)
          clear HP HBr
          obtain ⟨co, hco⟩ : ∃ co, co = rd_T53 l1 i := ⟨_, rfl⟩
          have HCo := Lib.hid hco
          rw [← hco] at HC2 HC3 HB1
          have HLen : Hid ((hs ++ (l1.take i).flatMap codeB).length + (codeB co).length ≤ 1099511627) := Lib.hid (by
            have h7 := flat_lt l1 z53 codeB hlt
            have h8 : rd_T53 l1 i = l1.getD i z53 := by unfold rd_T53; rw [Int.toNat_natCast]
            rw [hco, h8, HH.out]
            unfold imgB at hsz
            rw [List.length_append] at hsz ⊢
            omega)
          rw [← hco]
          clear hco
          obtain ⟨Aj, nj, cj, hb1, hb2, hb3⟩ := HP8.out.open
          have H1 := Lib.hid hb1
          have H2 := Lib.hid hb2
          have H3 := Lib.hid hb3
          clear hb1 hb2 hb3 HP8
          have z0 := (blk_cell HB1.out 0).trans rfl
          have z1 := (blk_cell HB1.out 1).trans rfl
          have z2 := (blk_cell HB1.out 2).trans rfl
          have z3 := (blk_cell HB1.out 3).trans rfl
          go_wp2_with fail
          refine (put_lit w [co.f0, co.f1, (co.f2.length : Int), (co.f3.length : Int)] gb (.slice Aj nj cj) _ w8 (0, 0) H3.out HG.out H1.out H2.out (by simp) (by have := HLen.out; omega)).mono ?_
          rintro e w9 ⟨v9, rfl, h2, h3, h4, h5, h6⟩
          have HP9 : Hid (Out w w9 gb ((hs ++ (l1.take i).flatMap codeB) ++ putB [co.f0, co.f1, (co.f2.length : Int), (co.f3.length : Int)])) := Lib.hid ⟨v9, h2, h3, h4⟩
          have HB9 := Lib.hid (h5.blk H2.out H1.out HB1.out (by decide) (by decide))
          clear h2 h3 h4 h5 h6 H1 H2 H3 z0 z1 z2 z3 HB1
          obtain ⟨zs, hzs⟩ : ∃ zs, zs = (hs ++ (l1.take i).flatMap codeB) ++ putB [co.f0, co.f1, (co.f2.length : Int), (co.f3.length : Int)] := ⟨_, rfl⟩
          have HZ := Lib.hid hzs
          rw [← hzs] at HP9
          have HZl : Hid (2 < zs.length ∧ zs.length + (co.f2.flatMap insB).length + (co.f3.flatMap mapB).length ≤ 1099511627) := Lib.hid (by
            have h1 := HLen.out
            rw [hzs]
            simp only [List.length_append, codeB, putB_len, List.length_cons, List.length_nil] at h1 ⊢
            omega)
          have HN2 : Hid (co.f2.length ≤ 1099511627) := Lib.hid (by have h1 := HZl.out; have h2 := flat_count co.f2 insB 1 (fun x => by simp [insB]); omega)
          have HN3 : Hid (co.f3.length ≤ 1099511627) := Lib.hid (by have h1 := HZl.out; have h2 := flat_count co.f3 mapB 1 (fun x => by simp only [mapB, List.length_append, putB_len, List.length_cons]; omega); omega)
          have hn2 := HN2.out
          clear hzs
          have z2 := (blk_cell HB9.out 2).trans rfl
          go_wp2
          clear z2
          obtain ⟨q2, hq2⟩ : ∃ q2, w9.heap[g1]? = some (.cells #[.int .i64 co.f0, .int .i64 co.f1, q2, .slice A3 co.f3.length c3] 53 (0, 0)) := ⟨_, HB9.out⟩
          clear HB9
          have HB9 := Lib.hid hq2
          clear hq2
          go_loopw [12, 88] (fun v12 v88 wr => ∃ k : Nat, v88 = .int .i64 k ∧ k ≤ co.f2.length ∧ Hid (Out w wr gb (zs ++ (co.f2.take k).flatMap insB)) ∧ Hid (wr.heap[g1]? = some (.cells #[.int .i64 co.f0, .int .i64 co.f1, q2, .slice A3 co.f3.length c3] 53 (0, 0)))) (fun _ v88 _ => (co.f2.length - intOf v88).toNat)
          case atStart => exact ⟨0, rfl, by omega, Lib.hid (by rw [List.take_zero, List.flatMap_nil, List.append_nil]; exact HP9.out), HB9⟩
          case round =>
            clear HP9 HB9
            obtain ⟨k, rfl, hk, HPk, HBk⟩ := hrel
            by_cases hlk : k < co.f2.length
            · have p1 : (0 : Int) ≤ (k : Int) := by omega
              have q1 : (k : Int) < (co.f2.length : Int) := by omega
              obtain ⟨ak, e1, x0, x1, x2, x3, x4⟩ := at_T68 HC2.out k p1 q1
              subst e1
              rw [Int.toNat_natCast] at x0 x1 x2 x3 x4
              have hbq := HPk.out.below
              replace x0 := pw_cell_below hbq x0
              replace x1 := pw_cell_below hbq x1
              replace x2 := pw_cell_below hbq x2
              replace x3 := pw_cell_below hbq x3
              replace x4 := pw_cell_below hbq x4
              clear hbq
              have hu68 := Try.underlying68
              go_upto_region 21 with (first | ((with_reducible refine gate_dst (N := 12) rfl ?_); refine box_event ?hg (N := 12) ?hd (cs := #[.int .i64 0, .int .i64 0, .int .i64 0, .int .i64 0, .int .i64 0]) (t := 68) ?hr ?_; (case hd => rfl); (case hg => rfl); (case hr => first | (go_simp; done) | (go_simp; rfl)); intro g2 hg w6 hbox hb; have hgq := Nat.le_of_eq hg.symm; clear hg; replace x0 := pw_cell_below hb x0; replace x1 := pw_cell_below hb x1; replace x2 := pw_cell_below hb x2; replace x3 := pw_cell_below hb x3; replace x4 := pw_cell_below hb x4; have z0 := (blk_cell hbox 0).trans rfl; have z1 := (blk_cell hbox 1).trans rfl; have z2 := (blk_cell hbox 2).trans rfl; have z3 := (blk_cell hbox 3).trans rfl; have z4 := (blk_cell hbox 4).trans rfl; have f0 := blk_frozen hbox 0; have f1 := blk_frozen hbox 1; have f2 := blk_frozen hbox 2; have f3 := blk_frozen hbox 3; have f4 := blk_frozen hbox 4; have HB6 := Lib.hid hb; have HBX := Lib.hid hbox; have HG1 := Lib.hid hgq; clear hbox hb hgq))
              clear x0 x1 x2 x3 x4 z0 z1 z2 z3 z4 f0 f1 f2 f3 f4 hu68
              have HBr : Hid (Below wr.heap.size wr (((((w6.setCell ⟨g2, 0, none⟩ (.int .i64 (rd_T68 co.f2 k).f0)).setCell ⟨g2, 1, none⟩ (.int .i64 (rd_T68 co.f2 k).f1)).setCell ⟨g2, 2, none⟩ (.int .i64 (rd_T68 co.f2 k).f2)).setCell ⟨g2, 3, none⟩ (.int .i64 (rd_T68 co.f2 k).f3)).setCell ⟨g2, 4, none⟩ (.int .i64 (rd_T68 co.f2 k).f4))) := Lib.hid (below_set (below_set (below_set (below_set (below_set HB6.out HG1.out) HG1.out) HG1.out) HG1.out) HG1.out)
              have HX1 : Hid ((((((w6.setCell ⟨g2, 0, none⟩ (.int .i64 (rd_T68 co.f2 k).f0)).setCell ⟨g2, 1, none⟩ (.int .i64 (rd_T68 co.f2 k).f1)).setCell ⟨g2, 2, none⟩ (.int .i64 (rd_T68 co.f2 k).f2)).setCell ⟨g2, 3, none⟩ (.int .i64 (rd_T68 co.f2 k).f3)).setCell ⟨g2, 4, none⟩ (.int .i64 (rd_T68 co.f2 k).f4)).heap[g2]? = some (.cells #[.int .i64 (rd_T68 co.f2 k).f0, .int .i64 (rd_T68 co.f2 k).f1, .int .i64 (rd_T68 co.f2 k).f2, .int .i64 (rd_T68 co.f2 k).f3, .int .i64 (rd_T68 co.f2 k).f4] 68 (0, 0))) := Lib.hid (by simpa using blk_set (blk_set (blk_set (blk_set (blk_set HBX.out 0 (.int .i64 (rd_T68 co.f2 k).f0)) 1 (.int .i64 (rd_T68 co.f2 k).f1)) 2 (.int .i64 (rd_T68 co.f2 k).f2)) 3 (.int .i64 (rd_T68 co.f2 k).f3)) 4 (.int .i64 (rd_T68 co.f2 k).f4))
              generalize (((((w6.setCell ⟨g2, 0, none⟩ (.int .i64 (rd_T68 co.f2 k).f0)).setCell ⟨g2, 1, none⟩ (.int .i64 (rd_T68 co.f2 k).f1)).setCell ⟨g2, 2, none⟩ (.int .i64 (rd_T68 co.f2 k).f2)).setCell ⟨g2, 3, none⟩ (.int .i64 (rd_T68 co.f2 k).f3)).setCell ⟨g2, 4, none⟩ (.int .i64 (rd_T68 co.f2 k).f4)) = w8 at HBr HX1 ⊢
              clear HB6 HBX HG1
              have HP8 := Lib.hid (HPk.out.grow HBr.out)
              have HB8 := Lib.hid (blk_below HBk.out HBr.out)
              clear HPk HBr HBk
              obtain ⟨xo, hxo⟩ : ∃ xo, xo = rd_T68 co.f2 k := ⟨_, rfl⟩
              have HS : Hid (zs ++ (co.f2.take (k + 1)).flatMap insB = (zs ++ (co.f2.take k).flatMap insB) ++ insB xo) := Lib.hid (by
                have h8 : rd_T68 co.f2 k = co.f2.getD k z68 := by unfold rd_T68; rw [Int.toNat_natCast]
                rw [flat_succ co.f2 z68 insB hlk, hxo, h8, List.append_assoc])
              rw [← hxo] at HX1
              rw [← hxo]
              clear hxo
              obtain ⟨zj, hzj⟩ : ∃ zj, zj = zs ++ (co.f2.take k).flatMap insB := ⟨_, rfl⟩
              have HZj : Hid (2 < zj.length ∧ zj.length ≤ 1099511627) := Lib.hid (by
                have h1 := HZl.out
                have h2 := flat_le co.f2 insB k
                rw [hzj, List.length_append]
                omega)
              rw [← hzj] at HP8 HS
              clear hzj
              obtain ⟨Aj2, nj2, cj2, hb1, hb2, hb3⟩ := HP8.out.open
              have HO : Hid (OwnB w8.drew w.heap.size (.slice Aj2 nj2 cj2) zj) := Lib.hid (hb2.below (below_drew1 (Below.refl _ _)))
              have HB : Hid (Below w.heap.size w w8.drew) := Lib.hid (below_drew1 hb3)
              have HX : Hid (w8.drew.heap[gb]? = some (.cells #[.slice Aj2 nj2 cj2] 34 (0, 0))) := Lib.hid hb1
              have HY : Hid (w8.drew.heap[g2]? = some (.cells #[.int .i64 xo.f0, .int .i64 xo.f1, .int .i64 xo.f2, .int .i64 xo.f3, .int .i64 xo.f4] 68 (0, 0))) := HX1
              have HW : Hid (w8.drew.heap[g1]? = some (.cells #[.int .i64 co.f0, .int .i64 co.f1, q2, .slice A3 co.f3.length c3] 53 (0, 0))) := HB8
              have hne : g2 ≠ gb := blk_apart HX1.out hb1 (by decide)
              have hne1 : g1 ≠ gb := blk_apart HB8.out hb1 (by decide)
              have y0 : w8.cell? ⟨gb, 0, none⟩ = some (.slice Aj2 nj2 cj2) := (blk_cell hb1 0).trans rfl
              have f0 := blk_frozen hb1 0
              have z0 := (blk_cell HX1.out 0).trans rfl
              have z1 := (blk_cell HX1.out 1).trans rfl
              have z2 := (blk_cell HX1.out 2).trans rfl
              have z3 := (blk_cell HX1.out 3).trans rfl
              have z4 := (blk_cell HX1.out 4).trans rfl
              clear hb1 hb2 hb3 HP8 HB8 HX1
              refine wp_region_held_drew (S := fun w' => w'.cell? ⟨g2, 0, none⟩ = some (.int .i64 xo.f0) ∧ w'.cell? ⟨g2, 1, none⟩ = some (.int .i64 xo.f1) ∧ w'.cell? ⟨g2, 2, none⟩ = some (.int .i64 xo.f2) ∧ w'.cell? ⟨g2, 3, none⟩ = some (.int .i64 xo.f3) ∧ w'.cell? ⟨g2, 4, none⟩ = some (.int .i64 xo.f4)) (by kernel_rfl) (five HY.out) (fun hHeld => ?_)
              refine wpAnyH_take (i := 1) (v := ?_) rfl (by kernel_rfl) (by kernel_rfl) (by kernel_rfl) (fun _ _ _ h => h) (Or.inl ⟨by rfl, ?_⟩) (by assumption) ?_
              rotate_left
              · (intro w' hSw; (try dsimp only at hSw); first | (go_simp; done) | (go_simp; with_reducible rfl))
              try simp only [Act.put, List.setIfInBounds_toArray, List.set_cons_zero, List.set_cons_succ]
              refine wpAnyH_take (i := 2) (v := ?_) rfl (by kernel_rfl) (by kernel_rfl) (by kernel_rfl) (fun _ _ _ h => h) (Or.inl ⟨by rfl, ?_⟩) (by assumption) ?_
              rotate_left
              · (intro w' hSw; (try dsimp only at hSw); first | (go_simp; done) | (go_simp; with_reducible rfl))
              try simp only [Act.put, List.setIfInBounds_toArray, List.set_cons_zero, List.set_cons_succ]
              refine wpAnyH_take (i := 3) (v := ?_) rfl (by kernel_rfl) (by kernel_rfl) (by kernel_rfl) (fun _ _ _ h => h) (Or.inl ⟨by rfl, ?_⟩) (by assumption) ?_
              rotate_left
              · (intro w' hSw; (try dsimp only at hSw); first | (go_simp; done) | (go_simp; with_reducible rfl))
              try simp only [Act.put, List.setIfInBounds_toArray, List.set_cons_zero, List.set_cons_succ]
              refine wpAnyH_take (i := 4) (v := ?_) rfl (by kernel_rfl) (by kernel_rfl) (by kernel_rfl) (fun _ _ _ h => h) (Or.inl ⟨by rfl, ?_⟩) (by assumption) ?_
              rotate_left
              · (intro w' hSw; (try dsimp only at hSw); first | (go_simp; done) | (go_simp; with_reducible rfl))
              try simp only [Act.put, List.setIfInBounds_toArray, List.set_cons_zero, List.set_cons_succ]
              refine wpAnyH_take (i := 5) (v := ?_) rfl (by kernel_rfl) (by kernel_rfl) (by kernel_rfl) (fun _ _ _ h => h) (Or.inl ⟨by rfl, ?_⟩) (by assumption) ?_
              rotate_left
              · (intro w' hSw; (try dsimp only at hSw); first | (go_simp; done) | (go_simp; with_reducible rfl))
              try simp only [Act.put, List.setIfInBounds_toArray, List.set_cons_zero, List.set_cons_succ]
              refine wpAnyH_take (i := 6) (v := ?_) rfl (by kernel_rfl) (by kernel_rfl) (by kernel_rfl) (fun _ _ _ h => h) (Or.inl ⟨by rfl, ?_⟩) (by assumption) ?_
              rotate_left
              · (intro w' hSw; (try dsimp only at hSw); first | (go_simp; done) | (go_simp; with_reducible rfl))
              try simp only [Act.put, List.setIfInBounds_toArray, List.set_cons_zero, List.set_cons_succ]
              refine wpAnyH_take (i := 7) (v := ?_) rfl (by kernel_rfl) (by kernel_rfl) (by kernel_rfl) (fun _ _ _ h => h) (Or.inl ⟨by rfl, ?_⟩) (by assumption) ?_
              rotate_left
              · (intro w' hSw; (try dsimp only at hSw); first | (go_simp; done) | (go_simp; with_reducible rfl))
              try simp only [Act.put, List.setIfInBounds_toArray, List.set_cons_zero, List.set_cons_succ]
              refine wpAnyH_take (i := 8) (v := ?_) rfl (by kernel_rfl) (by kernel_rfl) (by kernel_rfl) (fun _ _ _ h => h) (Or.inl ⟨by rfl, ?_⟩) (by assumption) ?_
              rotate_left
              · (intro w' hSw; (try dsimp only at hSw); first | (go_simp; done) | (go_simp; with_reducible rfl))
              try simp only [Act.put, List.setIfInBounds_toArray, List.set_cons_zero, List.set_cons_succ]
              refine wpAnyH_take (i := 9) (v := ?_) rfl (by kernel_rfl) (by kernel_rfl) (by kernel_rfl) (fun _ _ _ h => h) (Or.inl ⟨by rfl, ?_⟩) (by assumption) ?_
              rotate_left
              · (intro w' hSw; (try dsimp only at hSw); first | (go_simp; done) | (go_simp; with_reducible rfl))
              try simp only [Act.put, List.setIfInBounds_toArray, List.set_cons_zero, List.set_cons_succ]
              refine wpAnyH_take (i := 10) (v := ?_) rfl (by kernel_rfl) (by kernel_rfl) (by kernel_rfl) (fun _ _ _ h => h) (Or.inl ⟨by rfl, ?_⟩) (by assumption) ?_
              rotate_left
              · (intro w' hSw; (try dsimp only at hSw); first | (go_simp; done) | (go_simp; with_reducible rfl))
              try simp only [Act.put, List.setIfInBounds_toArray, List.set_cons_zero, List.set_cons_succ]
              refine wpAnyH_take (i := 11) (v := ?_) rfl (by kernel_rfl) (by kernel_rfl) (by kernel_rfl) (fun _ _ _ h => h) (Or.inl ⟨by rfl, ?_⟩) (by assumption) ?_
              rotate_left
              · (intro w' hSw; (try dsimp only at hSw); first | (go_simp; done) | (go_simp; with_reducible rfl))
              try simp only [Act.put, List.setIfInBounds_toArray, List.set_cons_zero, List.set_cons_succ]
              refine wpAnyH_take (i := 12) (v := ?_) rfl (by kernel_rfl) (by kernel_rfl) (by kernel_rfl) (fun _ _ _ h => h) (Or.inl ⟨by rfl, ?_⟩) (by assumption) ?_
              rotate_left
              · (intro w' hSw; (try dsimp only at hSw); first | (go_simp; done) | (go_simp; with_reducible rfl))
              try simp only [Act.put, List.setIfInBounds_toArray, List.set_cons_zero, List.set_cons_succ]
              refine wpAnyH_take (i := 15) (v := ?_) rfl (by kernel_rfl) (by kernel_rfl) (by kernel_rfl) (fun _ _ _ h => h) (Or.inl ⟨by rfl, ?_⟩) (by assumption) ?_
              rotate_left
              · (intro w' hSw; (try dsimp only at hSw); first | (go_simp; done) | (go_simp; with_reducible rfl))
              try simp only [Act.put, List.setIfInBounds_toArray, List.set_cons_zero, List.set_cons_succ]
              refine wpAnyH_take (i := 16) (v := ?_) rfl (by kernel_rfl) (by kernel_rfl) (by kernel_rfl) (fun _ _ _ h => h) (Or.inl ⟨by rfl, ?_⟩) (by assumption) ?_
              rotate_left
              · (intro w' hSw; (try dsimp only at hSw); first | (go_simp; done) | (go_simp; with_reducible rfl))
              try simp only [Act.put, List.setIfInBounds_toArray, List.set_cons_zero, List.set_cons_succ]
              refine wpAnyH_ready (rs := [0, 13]) (by kernel_rfl) (by simp) ?_
              refine AllReadyH.cons rfl (fun K hK => ?_) (AllReadyH.cons rfl (fun K hK => ?_) AllReadyH.nil)
              · go_simp
                refine hK.out _ _ (five HY.out) (fun hHeld => ?_)
                clear hK K
                try simp only [Act.put, List.setIfInBounds_toArray, List.set_cons_zero, List.set_cons_succ]
                refine wpAnyH_ready (rs := [13]) (by kernel_rfl) (by simp) ?_
                refine AllReadyH.cons rfl (fun K hK => ?_) AllReadyH.nil
                go_simp
                refine hK.out _ _ (five (blk_below HY.out (below_alloc (Below.refl _ _) _))) (fun hHeld => ?_)
                clear hK K
                try simp only [Act.put, List.setIfInBounds_toArray, List.set_cons_zero, List.set_cons_succ]
                refine wpAnyH_ready (rs := [14]) (by kernel_rfl) (by simp) ?_
                refine AllReadyH.cons rfl (fun K hK => ?_) AllReadyH.nil
                refine app_step (by rfl) (.tmp 92) (.tmp 105) (by rfl) w w8.drew (.slice Aj2 nj2 cj2) zj [xo.f0 % 256, xo.f1 % 256, xo.f2 % 256, xo.f3 % 256] (0, 0) (by rfl) (by rfl) HO.out HZj.out.1 HB.out (by have := HZj.out.2; simp only [List.length_cons, List.length_nil]; omega) ?_
                intro v5 w5 h1 h2 h3 h4; obtain ⟨A5, n5, c5, rfl⟩ := h1.any; have HX5 := Lib.hid (h3.blk HO.out HX.out (by decide)); have HY5 := Lib.hid (h3.blk HO.out HY.out (by decide)); have HW5 := Lib.hid (h3.blk HO.out HW.out (by decide)); have HO5 := Lib.hid h1; have HB5 := Lib.hid h2; clear h1 h2 h3 h4; have y5 := (blk_cell HX5.out 0).trans rfl; have f5 := blk_frozen HX5.out 0; have t0 := (blk_cell HY5.out 0).trans rfl; have t1 := (blk_cell HY5.out 1).trans rfl; have t2 := (blk_cell HY5.out 2).trans rfl; have t3 := (blk_cell HY5.out 3).trans rfl; have t4 := (blk_cell HY5.out 4).trans rfl
                refine hK.out _ _ (five HY5.out) (fun hHeld => ?_)
                clear hK K
                try simp only [Act.put, List.setIfInBounds_toArray, List.set_cons_zero, List.set_cons_succ]
                refine wpAnyH_ready (rs := [17]) (by kernel_rfl) (by simp) ?_
                refine AllReadyH.cons rfl (fun K hK => ?_) AllReadyH.nil
                go_simp
                refine (low_c w (.slice A5 n5 c5) (zj ++ [xo.f0 % 256, xo.f1 % 256, xo.f2 % 256, xo.f3 % 256]) xo.f4 8 _ HB5.out HO5.out (by omega) (by have := HZj.out.2; rw [List.length_append]; simp only [List.length_cons, List.length_nil]; omega)).mono ?_; rintro e w7 ⟨v7, rfl, h1, h2, h3, h4⟩; obtain ⟨A7, n7, c7, rfl⟩ := h1.any; have HX7 := Lib.hid (h3.blk HO5.out HX5.out (by decide)); have HY7 := Lib.hid (h3.blk HO5.out HY5.out (by decide)); have HW7 := Lib.hid (h3.blk HO5.out HW5.out (by decide)); have HO7 := Lib.hid h1; have HB7 := Lib.hid h2; clear h1 h2 h3 h4 y5 f5 t0 t1 t2 t3 t4; have y5 := (blk_cell HX7.out 0).trans rfl; have f5 := blk_frozen HX7.out 0; have t0 := (blk_cell HY7.out 0).trans rfl; have t1 := (blk_cell HY7.out 1).trans rfl; have t2 := (blk_cell HY7.out 2).trans rfl; have t3 := (blk_cell HY7.out 3).trans rfl; have t4 := (blk_cell HY7.out 4).trans rfl
                go_simp
                refine hK.out _ _ (five HY7.out) (fun hHeld => ?_)
                clear hK K
                try simp only [Act.put, List.setIfInBounds_toArray, List.set_cons_zero, List.set_cons_succ]
                refine wpAnyH_ready (rs := [18]) (by kernel_rfl) (by simp) ?_
                refine AllReadyH.cons rfl (fun K hK => ?_) AllReadyH.nil
                go_simp
                refine hK.out _ _ (by simp only [cell_far _ hne]; exact five HY7.out) (fun hHeld => ?_)
                clear hK K
                try simp only [Act.put, List.setIfInBounds_toArray, List.set_cons_zero, List.set_cons_succ]
                refine wpAnyH_done (by kernel_rfl) ?_ _
                have HP6 : Hid (Out w (w7.setCell ⟨gb, 0, none⟩ (.slice A7 n7 c7)) gb (zs ++ (co.f2.take (k + 1)).flatMap insB)) := Lib.hid (by
                  have h5 := HO7.out
                  rw [List.append_assoc] at h5
                  have h6 : zj ++ ([xo.f0 % 256, xo.f1 % 256, xo.f2 % 256, xo.f3 % 256] ++ lowB xo.f4 8) = zs ++ (co.f2.take (k + 1)).flatMap insB := HS.out.symm
                  rw [h6] at h5
                  exact Out.set HG.out HX7.out h5 HB7.out)
                have HB6 : Hid ((w7.setCell ⟨gb, 0, none⟩ (.slice A7 n7 c7)).heap[g1]? = some (.cells #[.int .i64 co.f0, .int .i64 co.f1, q2, .slice A3 co.f3.length c3] 53 (0, 0))) := Lib.hid ((Below.heap_setCell w7 ⟨gb, 0, none⟩ _ g1 hne1).trans HW7.out)
                clear HO HB HX HY HW HX5 HY5 HW5 HO5 HB5 HX7 HY7 HW7 HO7 HB7 y0 f0 y5 f5 z0 z1 z2 z3 z4 t0 t1 t2 t3 t4
                go_wp2
                go_roundw
                case rel => exact ⟨k + 1, by go_num, by omega, HP6, HB6⟩
                case measure => simp [intOf]; omega
              · go_simp
                refine hK.out _ _ (five (blk_below HY.out (below_alloc (Below.refl _ _) _))) (fun hHeld => ?_)
                clear hK K
                try simp only [Act.put, List.setIfInBounds_toArray, List.set_cons_zero, List.set_cons_succ]
                refine wpAnyH_ready (rs := [0]) (by kernel_rfl) (by simp) ?_
                refine AllReadyH.cons rfl (fun K hK => ?_) AllReadyH.nil
                go_simp
                refine hK.out _ _ (five (blk_below HY.out (below_alloc (Below.refl _ _) _))) (fun hHeld => ?_)
                clear hK K
                try simp only [Act.put, List.setIfInBounds_toArray, List.set_cons_zero, List.set_cons_succ]
                refine wpAnyH_ready (rs := [14]) (by kernel_rfl) (by simp) ?_
                refine AllReadyH.cons rfl (fun K hK => ?_) AllReadyH.nil
                refine app_step (by rfl) (.tmp 92) (.tmp 105) (by rfl) w w8.drew (.slice Aj2 nj2 cj2) zj [xo.f0 % 256, xo.f1 % 256, xo.f2 % 256, xo.f3 % 256] (0, 0) (by rfl) (by rfl) HO.out HZj.out.1 HB.out (by have := HZj.out.2; simp only [List.length_cons, List.length_nil]; omega) ?_
                intro v5 w5 h1 h2 h3 h4; obtain ⟨A5, n5, c5, rfl⟩ := h1.any; have HX5 := Lib.hid (h3.blk HO.out HX.out (by decide)); have HY5 := Lib.hid (h3.blk HO.out HY.out (by decide)); have HW5 := Lib.hid (h3.blk HO.out HW.out (by decide)); have HO5 := Lib.hid h1; have HB5 := Lib.hid h2; clear h1 h2 h3 h4; have y5 := (blk_cell HX5.out 0).trans rfl; have f5 := blk_frozen HX5.out 0; have t0 := (blk_cell HY5.out 0).trans rfl; have t1 := (blk_cell HY5.out 1).trans rfl; have t2 := (blk_cell HY5.out 2).trans rfl; have t3 := (blk_cell HY5.out 3).trans rfl; have t4 := (blk_cell HY5.out 4).trans rfl
                refine hK.out _ _ (five HY5.out) (fun hHeld => ?_)
                clear hK K
                try simp only [Act.put, List.setIfInBounds_toArray, List.set_cons_zero, List.set_cons_succ]
                refine wpAnyH_ready (rs := [17]) (by kernel_rfl) (by simp) ?_
                refine AllReadyH.cons rfl (fun K hK => ?_) AllReadyH.nil
                go_simp
                refine (low_c w (.slice A5 n5 c5) (zj ++ [xo.f0 % 256, xo.f1 % 256, xo.f2 % 256, xo.f3 % 256]) xo.f4 8 _ HB5.out HO5.out (by omega) (by have := HZj.out.2; rw [List.length_append]; simp only [List.length_cons, List.length_nil]; omega)).mono ?_; rintro e w7 ⟨v7, rfl, h1, h2, h3, h4⟩; obtain ⟨A7, n7, c7, rfl⟩ := h1.any; have HX7 := Lib.hid (h3.blk HO5.out HX5.out (by decide)); have HY7 := Lib.hid (h3.blk HO5.out HY5.out (by decide)); have HW7 := Lib.hid (h3.blk HO5.out HW5.out (by decide)); have HO7 := Lib.hid h1; have HB7 := Lib.hid h2; clear h1 h2 h3 h4 y5 f5 t0 t1 t2 t3 t4; have y5 := (blk_cell HX7.out 0).trans rfl; have f5 := blk_frozen HX7.out 0; have t0 := (blk_cell HY7.out 0).trans rfl; have t1 := (blk_cell HY7.out 1).trans rfl; have t2 := (blk_cell HY7.out 2).trans rfl; have t3 := (blk_cell HY7.out 3).trans rfl; have t4 := (blk_cell HY7.out 4).trans rfl
                go_simp
                refine hK.out _ _ (five HY7.out) (fun hHeld => ?_)
                clear hK K
                try simp only [Act.put, List.setIfInBounds_toArray, List.set_cons_zero, List.set_cons_succ]
                refine wpAnyH_ready (rs := [18]) (by kernel_rfl) (by simp) ?_
                refine AllReadyH.cons rfl (fun K hK => ?_) AllReadyH.nil
                go_simp
                refine hK.out _ _ (by simp only [cell_far _ hne]; exact five HY7.out) (fun hHeld => ?_)
                clear hK K
                try simp only [Act.put, List.setIfInBounds_toArray, List.set_cons_zero, List.set_cons_succ]
                refine wpAnyH_done (by kernel_rfl) ?_ _
                have HP6 : Hid (Out w (w7.setCell ⟨gb, 0, none⟩ (.slice A7 n7 c7)) gb (zs ++ (co.f2.take (k + 1)).flatMap insB)) := Lib.hid (by
                  have h5 := HO7.out
                  rw [List.append_assoc] at h5
                  have h6 : zj ++ ([xo.f0 % 256, xo.f1 % 256, xo.f2 % 256, xo.f3 % 256] ++ lowB xo.f4 8) = zs ++ (co.f2.take (k + 1)).flatMap insB := HS.out.symm
                  rw [h6] at h5
                  exact Out.set HG.out HX7.out h5 HB7.out)
                have HB6 : Hid ((w7.setCell ⟨gb, 0, none⟩ (.slice A7 n7 c7)).heap[g1]? = some (.cells #[.int .i64 co.f0, .int .i64 co.f1, q2, .slice A3 co.f3.length c3] 53 (0, 0))) := Lib.hid ((Below.heap_setCell w7 ⟨gb, 0, none⟩ _ g1 hne1).trans HW7.out)
                clear HO HB HX HY HW HX5 HY5 HW5 HO5 HB5 HX7 HY7 HW7 HO7 HB7 y0 f0 y5 f5 z0 z1 z2 z3 z4 t0 t1 t2 t3 t4
                go_wp2
                go_roundw
                case rel => exact ⟨k + 1, by go_num, by omega, HP6, HB6⟩
                case measure => simp [intOf]; omega
            · obtain rfl : k = co.f2.length := by omega
              have HZ2 : Hid (Out w wr gb (zs ++ co.f2.flatMap insB)) := Lib.hid (by have := HPk.out; rwa [List.take_length] at this)
              have z3 := (blk_cell HBk.out 3).trans rfl
              have hn3 := HN3.out
              clear HPk HC2
              go_wp2
              clear z3 HBk
              obtain ⟨ys, hys⟩ : ∃ ys, ys = zs ++ co.f2.flatMap insB := ⟨_, rfl⟩
              have HYs := Lib.hid hys
              rw [← hys] at HZ2
              have HYl : Hid (2 < ys.length ∧ ys.length + (co.f3.flatMap mapB).length ≤ 1099511627) := Lib.hid (by
                have h1 := HZl.out
                rw [hys, List.length_append]
                omega)
              clear hys
              go_loopw [14, 114] (fun v14 v114 wr => ∃ k : Nat, v114 = .int .i64 k ∧ k ≤ co.f3.length ∧ Hid (Out w wr gb (ys ++ (co.f3.take k).flatMap mapB))) (fun _ v114 _ => (co.f3.length - intOf v114).toNat)
              case atStart => exact ⟨0, rfl, by omega, Lib.hid (by rw [List.take_zero, List.flatMap_nil, List.append_nil]; exact HZ2.out)⟩
              case round =>
                clear HZ2
                obtain ⟨k, rfl, hk, HPk⟩ := hrel
                by_cases hlk : k < co.f3.length
                · have p1 : (0 : Int) ≤ (k : Int) := by omega
                  have q1 : (k : Int) < (co.f3.length : Int) := by omega
                  obtain ⟨ak, A1s, c1s, e1, x0, x1, _, x2⟩ := at_T72 HC3.out k p1 q1
                  subst e1
                  rw [Int.toNat_natCast] at x0 x1
                  have hbq := HPk.out.below
                  replace x0 := pw_cell_below hbq x0
                  replace x1 := pw_cell_below hbq x1
                  have HSl := Lib.hid x2
                  clear hbq x2
                  have hu72 := Try.underlying72
                  go_upto_region 26 with (first | ((with_reducible refine gate_dst (N := 14) rfl ?_); refine box_event ?hg (N := 14) ?hd (cs := #[.int .i64 0, .slice none 0 0]) (t := 72) ?hr ?_; (case hd => rfl); (case hg => rfl); (case hr => first | (go_simp; done) | (go_simp; rfl)); intro g3 hg w6 hbox hb; have hgq := Nat.le_of_eq hg.symm; clear hg; replace x0 := pw_cell_below hb x0; replace x1 := pw_cell_below hb x1; have z0 := (blk_cell hbox 0).trans rfl; have z1 := (blk_cell hbox 1).trans rfl; have f0 := blk_frozen hbox 0; have f1 := blk_frozen hbox 1; have HB6 := Lib.hid hb; have HBX := Lib.hid hbox; have HG1 := Lib.hid hgq; clear hbox hb hgq))
                  clear x0 x1 z0 z1 f0 f1 hu72
                  have HBr : Hid (Below wr.heap.size wr ((w6.setCell ⟨g3, 0, none⟩ (.int .i64 (rd_T72 co.f3 k).f0)).setCell ⟨g3, 1, none⟩ (.slice A1s (rd_T72 co.f3 k).f1.length c1s))) := Lib.hid (below_set (below_set HB6.out HG1.out) HG1.out)
                  have HX1 : Hid (((w6.setCell ⟨g3, 0, none⟩ (.int .i64 (rd_T72 co.f3 k).f0)).setCell ⟨g3, 1, none⟩ (.slice A1s (rd_T72 co.f3 k).f1.length c1s)).heap[g3]? = some (.cells #[.int .i64 (rd_T72 co.f3 k).f0, .slice A1s (rd_T72 co.f3 k).f1.length c1s] 72 (0, 0))) := Lib.hid (by simpa using blk_set (blk_set HBX.out 0 (.int .i64 (rd_T72 co.f3 k).f0)) 1 (.slice A1s (rd_T72 co.f3 k).f1.length c1s))
                  generalize ((w6.setCell ⟨g3, 0, none⟩ (.int .i64 (rd_T72 co.f3 k).f0)).setCell ⟨g3, 1, none⟩ (.slice A1s (rd_T72 co.f3 k).f1.length c1s)) = w8 at HBr HX1 ⊢
                  clear HB6 HBX HG1
                  have HP8 := Lib.hid (HPk.out.grow HBr.out)
                  clear HPk HBr
                  obtain ⟨xo, hxo⟩ : ∃ xo, xo = rd_T72 co.f3 k := ⟨_, rfl⟩
                  have HLk : Hid ((ys ++ (co.f3.take k).flatMap mapB).length + (mapB xo).length ≤ 1099511627) := Lib.hid (by
                    have h7 := flat_lt co.f3 z72 mapB hlk
                    have h8 : rd_T72 co.f3 k = co.f3.getD k z72 := by unfold rd_T72; rw [Int.toNat_natCast]
                    have h9 := HYl.out
                    rw [hxo, h8, List.length_append]
                    omega)
                  have HS : Hid (ys ++ (co.f3.take (k + 1)).flatMap mapB = (ys ++ (co.f3.take k).flatMap mapB) ++ mapB xo) := Lib.hid (by
                    have h8 : rd_T72 co.f3 k = co.f3.getD k z72 := by unfold rd_T72; rw [Int.toNat_natCast]
                    rw [flat_succ co.f3 z72 mapB hlk, hxo, h8, List.append_assoc])
                  rw [← hxo] at HX1 HSl
                  rw [← hxo]
                  clear hxo
                  obtain ⟨zj, hzj⟩ : ∃ zj, zj = ys ++ (co.f3.take k).flatMap mapB := ⟨_, rfl⟩
                  rw [← hzj] at HP8 HS HLk
                  clear hzj
                  have HLz : Hid (zj.length + 4 + 2 * xo.f1.length ≤ 1099511627) := Lib.hid (by
                    have h1 := HLk.out
                    simp only [mapB, List.length_append, putB_len, List.length_cons, List.length_nil] at h1
                    omega)
                  obtain ⟨Aj2, nj2, cj2, hb1, hb2, hb3⟩ := HP8.out.open
                  have H1 := Lib.hid hb1
                  have H2 := Lib.hid hb2
                  have H3 := Lib.hid hb3
                  clear hb1 hb2 hb3 HP8
                  have z0 := (blk_cell HX1.out 0).trans rfl
                  have z1 := (blk_cell HX1.out 1).trans rfl
                  go_wp2_with fail
                  refine (put_lit w [xo.f0, (xo.f1.length : Int)] gb (.slice Aj2 nj2 cj2) _ w8 (0, 0) H3.out HG.out H1.out H2.out (by simp) (by have := HLz.out; omega)).mono ?_
                  rintro e w9 ⟨v9, rfl, h2, h3, h4, h5, h6⟩
                  have HX9 := Lib.hid (h5.blk H2.out H1.out HX1.out (by decide) (by decide))
                  have HP9 : Hid (Out w w9 gb (zj ++ putB [xo.f0, (xo.f1.length : Int)])) := Lib.hid ⟨v9, h2, h3, h4⟩
                  clear h2 h3 h4 h5 h6 H1 H2 H3 z0 z1 HX1
                  obtain ⟨Aj3, nj3, cj3, hb1, hb2, hb3⟩ := HP9.out.open
                  have H1 := Lib.hid hb1
                  have H2 := Lib.hid hb2
                  have H3 := Lib.hid hb3
                  have HFar : Hid (∀ ad, A1s = some ad → 0 < xo.f1.length → ad.block ≠ gb ∧ some ad.block ≠ (Value.slice Aj3 nj3 cj3).ownBlock) := Lib.hid (fun ad e hl => by
                    have hb : ad.block < w.heap.size := by
                      obtain ⟨ad', e1, y⟩ := Kd.at_int HSl.out 0 (by omega) (by omega)
                      rw [e] at e1
                      injection e1 with e1
                      subst e1
                      have := World.block_lt_of_cell? w _ y
                      rwa [add_block] at this
                    refine ⟨fun e2 => ?_, fun e2 => ?_⟩
                    · have := HG.out
                      omega
                    · have := hb2.ge _ e2.symm
                      omega)
                  clear hb1 hb2 hb3 HP9
                  have z1 := (blk_cell HX9.out 1).trans rfl
                  go_wp2_with fail
                  refine (put_c w A1s c1s xo.f1 gb (.slice Aj3 nj3 cj3) _ w9 H3.out HG.out (Kd.C_below HSl.out H3.out) HFar.out H1.out H2.out (by have := HLz.out; omega) (by have := HLz.out; rw [List.length_append, putB_len]; simp only [List.length_cons, List.length_nil]; omega)).mono ?_
                  rintro e w10 ⟨v10, rfl, h2, h3, h4, h5, h6⟩
                  have HP10 : Hid (Out w w10 gb (ys ++ (co.f3.take (k + 1)).flatMap mapB)) := Lib.hid (by
                    rw [HS.out]
                    refine ⟨v10, h2, ?_, h4⟩
                    rw [List.append_assoc] at h3
                    exact h3)
                  clear h2 h3 h4 h5 h6 H1 H2 H3 z1 HX9 HFar
                  go_wp2
                  go_roundw
                  case rel => exact ⟨k + 1, by go_num, by omega, HP10⟩
                  case measure => simp [intOf]; omega
                · obtain rfl : k = co.f3.length := by omega
                  have HP11 : Hid (Out w wr gb (hs ++ (l1.take (i + 1)).flatMap codeB)) := Lib.hid (by
                    have h8 : rd_T53 l1 i = l1.getD i z53 := by unfold rd_T53; rw [Int.toNat_natCast]
                    rw [flat_succ l1 z53 codeB hlt, ← h8, ← HCo.out, ← List.append_assoc]
                    have h1 := HPk.out
                    rw [List.take_length, HYs.out, HZ.out] at h1
                    simp only [codeB, ← List.append_assoc]
                    exact h1)
                  clear HPk
                  go_wp2
                  go_roundw
                  case rel => exact ⟨i + 1, by go_num, by omega, HP11⟩
                  case measure => simp [intOf]; omega
        · obtain rfl : i = l1.length := by omega
          have HP12 : Hid (Out w wr gb (imgB l0 l1 a2)) := Lib.hid (by
            have h1 := HP.out
            rw [List.take_length, HH.out] at h1
            exact h1)
          obtain ⟨Aj2, nj2, cj2, hb1, hb2, hb3⟩ := HP12.out.open
          have z0 : wr.cell? ⟨gb, 0, none⟩ = some (.slice Aj2 nj2 cj2) := (blk_cell hb1 0).trans rfl
          have H2 := Lib.hid hb2
          have H3 := Lib.hid hb3
          clear hb1 hb2 hb3 HP HP12
          go_wp2
          go_ret
          exact ⟨_, rfl, H2.out, H3.out⟩

end Go.Proofs.Ytkfeoilnhpfknaa.ImFnExactImageRead
