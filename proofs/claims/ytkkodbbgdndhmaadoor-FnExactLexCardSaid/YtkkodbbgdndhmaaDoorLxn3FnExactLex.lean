/- The contract of impl.nextToken: no minus ahead. -/
import Derived.Test.YtkkodbbgdndhmaaDoorLxyFnExactLex
import Derived.Test.YtkkodbbgdndhmaaDoorLexDFnExactLex
import Derived.Test.YtkkodbbgdndhmaaDoorLxn0FnExactLex
import Derived.Deep.RegionHeld3
namespace Go.Proofs.YtkkodbbgdndhmaaDoor.LxFnExactLex
open Go.RowKit Go.Proofs.YtkkodbbgdndhmaaDoor.QFnExactLex Go.Proofs.YtkkodbbgdndhmaaDoorW.PrintWords Go.Proofs.YtkkodbbgdndhmaaDoorW.PrintLast Go.Proofs.YtkkodbbgdndhmaaDoor.LexA Go.Proofs.YtkkodbbgdndhmaaDoor.Fw
set_option linter.unusedSimpArgs false
set_option linter.unusedVariables false

set_option maxHeartbeats 16000000 in
set_option maxRecDepth 100000 in
theorem next_plain (hpc : PieceC) (A : Option Addr) (c : Nat) (l : List Int) (w : World) (hr : Kd.C (Kd.int .u8) w A l.length l) (hc : l.length ≤ c) (h0 : 0 < l.length) (hl : l.length ≤ 6000) (hby : Byt l) (hL : LW w) (h45 : ¬ l.getD 0 0 = 45) :
    Calls Tryd.prog 17 #[.slice A l.length c] w (NextV l w) := by
  have hu34 := Tryd.underlying34
  obtain ⟨ad, e1, x0⟩ := Kd.at_int hr 0 (by omega) (by omega)
  subst e1
  rw [show (0 : Int).toNat = 0 from rfl, Addr.add_zero', show rd l 0 = l.getD 0 0 from rfl] at x0
  have HR2 : Hid (∀ i : Nat, i < l.length → w.cell? (ad.add i) = some (.int .u8 (l.getD i 0))) := Lib.hid (fun i hi => by
    obtain ⟨ad', e2, x1⟩ := Kd.at_int hr (i : Int) (by omega) (by omega)
    injection e2 with e2
    subst e2
    rw [Int.toNat_natCast] at x1
    exact x1)
  have HR := Lib.hid hr
  have HY := Lib.hid hby
  have HL := Lib.hid hL
  clear hr hby hL
  obtain ⟨n, hn⟩ : ∃ n, n = l.length := ⟨_, rfl⟩
  have HN := Lib.hid hn
  rw [← hn] at h0 hl hc ⊢
  clear hn
  go_enter Tryd.func17, Tryd.ntmps17
  go_upto_region 1 with ((with_reducible refine gate_dst (N := 2) rfl ?_); refine box_event ?hg (N := 2) ?hd (cs := #[.int .i64 0, .int .i64 0, .int .i64 0, .slice none 0 0]) (t := 34) ?hr ?_; (case hd => rfl); (case hg => rfl); (case hr => first | (go_simp; done) | (go_simp; rfl)); intro gb hg w1 hbox hb; have HG := Lib.hid (Nat.le_of_eq hg.symm); have HB := Lib.hid hb; have HX := Lib.hid hbox; clear hg hbox hb)
  have x1 : w1.cell? ad = some (.int .u8 (l.getD 0 0)) := pw_cell_below HB.out x0
  have HR3 : Hid (∀ i : Nat, i < n → w1.cell? (ad.add i) = some (.int .u8 (l.getD i 0))) := Lib.hid (fun i hi => pw_cell_below HB.out (HR2.out i (by rw [← HN.out]; exact hi)))
  have HL1 := Lib.hid (HL.out.below HB.out)
  have HP : Hid (∀ i : Nat, i ≤ n → Calls Tryd.prog 25 #[.slice (some ad) i c] w1 (Piece (l.take i) w1)) := Lib.hid (fun i hi => by
    have hC := Kd.C_take (Kd.C_below HR.out HB.out) (m := i) (by rw [← HN.out]; exact hi)
    have hlen : (l.take i).length = i := by rw [List.length_take, ← HN.out]; omega
    have h := hpc (some ad) c (l.take i) w1 hC (by omega) (by omega) (HY.out.take i) HL1.out
    rw [hlen] at h
    exact h)
  have HD := Lib.hid (fun y w => digit_c y w)
  have HI := Lib.hid (fun y w => inner_c y w)
  have HC1 := Lib.hid (Kd.C_below HR.out HB.out)
  clear x0 HR2 HR HL HL1
  have HLd : Hid (lead l = 0) := Lib.hid (by unfold lead; rw [if_neg (fun h => h45 h.1)])
  have d0 : (l.getD 0 0 == 45) = false := beq_eq_false_iff_ne.2 h45
  clear HD
  go_wp2
  clear d0
  go_loop [4] (fun v4 => ∃ i : Nat, v4 = .int .i64 i ∧ 0 ≤ i ∧ i ≤ n ∧ Hid (∀ j, 0 ≤ j → j < i → innerB (l.getD j 0) = true)) (fun v4 => (n - intOf v4).toNat)
  case atStart => exact ⟨0, rfl, Nat.le_refl _, by omega, Lib.hid (fun j h1 h2 => by omega)⟩
  case round =>
    obtain ⟨i, rfl, hi1, hi, HIn⟩ := hrel
    have h3 : (i < n ∧ innerB (l.getD i 0) = true) ∨ (i < n ∧ innerB (l.getD i 0) = false) ∨ i = n := by
      by_cases hlt : i < n
      · cases h : innerB (l.getD i 0) with
        | true => exact .inl ⟨hlt, rfl⟩
        | false => exact .inr (.inl ⟨hlt, rfl⟩)
      · exact .inr (.inr (by omega))
    rcases h3 with ⟨hlt, hin⟩ | h3
    · have p0 : (i : Int) < (n : Int) := by omega
      have x2 := HR3.out i hlt
      have HIi := Lib.hid (fun w => HI.out (l.getD i 0) w)
      rw [hin] at HIi
      go_wp2_with (go_at_call 24; refine (HIi.out _).mono ?_; rintro e w' ⟨rfl, rfl⟩)
      exact ⟨⟨i + 1, by go_num, by omega, hlt, Lib.hid (fun j h1 h2 => by
        by_cases hj : j = i
        · rw [hj]; exact hin
        · exact HIn.out j h1 (by omega))⟩, by simp [intOf]; omega⟩
    · have HRun : Hid (IsRun l i) := Lib.hid (by
        rw [IsRun, HLd.out]
        refine ⟨hi1, by rw [← HN.out]; exact hi, HIn.out, fun hlt => ?_⟩
        rcases h3 with h3 | h3
        · exact h3.2
        · rw [← HN.out] at hlt; omega)
      clear HIn
      rcases Nat.eq_zero_or_pos i with h | hpos
      · subst h
        rcases h3 with ⟨hlt, hin⟩ | h3
        · have p0 : ((0 : Nat) : Int) < (n : Int) := by omega
          have x2 := HR3.out 0 hlt
          have HIi := Lib.hid (fun w => HI.out (l.getD 0 0) w)
          rw [hin] at HIi
          have HYr := Lib.hid (byt_at HY.out 0)
          obtain ⟨y, hy⟩ : ∃ y, l.getD 0 0 = y := ⟨_, rfl⟩
          have HY0 := Lib.hid hy
          rw [hy] at x1 x2 HIi HYr
          clear hy hin
          have kc : ∀ (w : World) (C : Array Value) (n c : Nat), (convert 22 22 (.slice (some ⟨w.heap.size, 0, none⟩) n c)).run Tryd.prog (w.alloc (.cells C 5)) = .ok (.slice (some ⟨w.heap.size, 0, none⟩) n c) (w.alloc (.cells C 5 (C.size, C.size + 1))) := fun w C n c => Lib.run_convert_bytes_const (P := Tryd.prog) w 22 5 C n c Tryd.underlying22 Tryd.underlying5
          by_cases hd : Dbl l
          · have d1 : decide (Dbl l) = true := decide_eq_true hd
            go_upto_region 10 with (first | (go_at_call 24; refine (HIi.out _).mono ?_; rintro e w' ⟨rfl, rfl⟩) | (go_at_call 27; refine (dbl_c ad n c l _ _ _ HN.out h0 hc HY.out (fun i hi => pw_cell_below (below_alloc (Below.refl _ _) _) (HR3.out i hi)) ((cell_blk (blk_new _ _) 0).trans rfl) ((cell_blk (blk_new _ _) 1).trans rfl)).mono ?_; rintro e w2 ⟨rfl, hw2⟩; have HW2 := Lib.hid hw2; clear hw2))
            have HBa : Hid (Below w.heap.size w w2) := Lib.hid (by rw [HW2.out]; exact below_step HB.out (below_alloc (Below.refl _ _) _))
            have HX2 : Hid (w2.heap[gb]? = some (.cells #[.int .i64 0, .int .i64 0, .int .i64 0, .slice none 0 0] 34 (0, 0))) := Lib.hid (by rw [HW2.out]; exact blk_below HX.out (below_alloc (Below.refl _ _) _))
            have x3 : w2.cell? ad = some (.int .u8 y) := by
              have h := HR3.out 0 h0
              rw [Addr.add_zero', HY0.out] at h
              rw [HW2.out]
              exact pw_cell_below (below_alloc (Below.refl _ _) _) h
            obtain ⟨z0, z1, z2, z3⟩ := four HX2.out
            have f0 := blk_frozen HX2.out 0
            have f1 := blk_frozen HX2.out 1
            have f2 := blk_frozen HX2.out 2
            have f3 := blk_frozen HX2.out 3
            clear HW2
            have HXn := Lib.hid (blk_below HX2.out (below_alloc (Below.refl _ _) (.cells #[.int .u8 61, .int .u8 61] 5 (2, 3))))
            clear z0 z1 z2 z3 f0 f1 f2 f3
            obtain ⟨z0, z1, z2, z3⟩ := four HXn.out
            have f0 := blk_frozen HXn.out 0
            have f1 := blk_frozen HXn.out 1
            have f2 := blk_frozen HXn.out 2
            have f3 := blk_frozen HXn.out 3
            go_wp2
            refine bodyPost_ret (results_row_tmp rfl _ _ gb 34 #[.int .i64 4, .int .i64 0, .int .i64 0, .slice (some ⟨w2.heap.size, 0, none⟩) 2 2] (0, 0) _ rfl (set4 HXn.out _ _ _ _) Tryd.underlying34 rfl (by kernel_rfl)) rfl ?_
            obtain ⟨e1, e2, e3⟩ := lit_end (cap := 2) (arr := #[.int .u8 61, .int .u8 61]) (fz := (2, 3)) (xs := [61, 61]) (.int .i64 4) (.int .i64 0) (.int .i64 0) (.slice (some ⟨w2.heap.size, 0, none⟩) 2 2) HBa.out HG.out (blk_lt HX2.out) (fun i hi => by
              have e : i = 0 ∨ i = 1 := by have hi : i < 2 := hi; omega
              rcases e with rfl | rfl <;> rfl) (.inr (by decide)) (by decide) (by decide)
            exact ⟨⟨4, 0, 0, [61, 61]⟩, _, 2, rfl, e1, e2, e3, fun _ => .inr (.inl ⟨HRun.out, hd, rfl, rfl⟩), fun h => by cases h⟩
          · have d1 : decide (Dbl l) = false := decide_eq_false hd
            obtain ⟨r, hr, hS⟩ := sign_c y HYr.out.1 HYr.out.2
            have HS := Lib.hid hS
            clear hS
            go_upto_region 11 with (first | (go_at_call 24; refine (HIi.out _).mono ?_; rintro e w' ⟨rfl, rfl⟩) | (go_at_call 27; refine (dbl_c ad n c l _ _ _ HN.out h0 hc HY.out (fun i hi => pw_cell_below (below_alloc (Below.refl _ _) _) (HR3.out i hi)) ((cell_blk (blk_new _ _) 0).trans rfl) ((cell_blk (blk_new _ _) 1).trans rfl)).mono ?_; rintro e w2 ⟨rfl, hw2⟩; have HW2 := Lib.hid hw2; clear hw2))
            have HBa : Hid (Below w.heap.size w w2) := Lib.hid (by rw [HW2.out]; exact below_step HB.out (below_alloc (Below.refl _ _) _))
            have HX2 : Hid (w2.heap[gb]? = some (.cells #[.int .i64 0, .int .i64 0, .int .i64 0, .slice none 0 0] 34 (0, 0))) := Lib.hid (by rw [HW2.out]; exact blk_below HX.out (below_alloc (Below.refl _ _) _))
            have x3 : w2.cell? ad = some (.int .u8 y) := by
              have h := HR3.out 0 h0
              rw [Addr.add_zero', HY0.out] at h
              rw [HW2.out]
              exact pw_cell_below (below_alloc (Below.refl _ _) _) h
            obtain ⟨z0, z1, z2, z3⟩ := four HX2.out
            have f0 := blk_frozen HX2.out 0
            have f1 := blk_frozen HX2.out 1
            have f2 := blk_frozen HX2.out 2
            have f3 := blk_frozen HX2.out 3
            clear HW2
            clear d1
            by_cases hs : y ∈ signs
            · have p3 : (0 : Int) ≤ r := hr.2 hs
              clear hr
              have HXn := Lib.hid (blk_below HX2.out (below_alloc (Below.refl _ _) (.cells #[.int .u8 y] 5 (0, 0))))
              clear z0 z1 z2 z3 f0 f1 f2 f3
              obtain ⟨z0, z1, z2, z3⟩ := four HXn.out
              have f0 := blk_frozen HXn.out 0
              have f1 := blk_frozen HXn.out 1
              have f2 := blk_frozen HXn.out 2
              have f3 := blk_frozen HXn.out 3
              go_wp2_with (first | (go_at_call 28; refine (HS.out _).mono ?_; rintro e w' ⟨rfl, hw⟩; rw [hw]; clear hw))
              refine bodyPost_ret (results_row_tmp rfl _ _ gb 34 #[.int .i64 4, .int .i64 0, .int .i64 0, .slice (some ⟨w2.heap.size, 0, none⟩) 1 1] (0, 0) _ rfl (set4 HXn.out _ _ _ _) Tryd.underlying34 rfl (by kernel_rfl)) rfl ?_
              obtain ⟨e1, e2, e3⟩ := lit_end (cap := 1) (arr := #[.int .u8 y]) (fz := (0, 0)) (xs := [y]) (.int .i64 4) (.int .i64 0) (.int .i64 0) (.slice (some ⟨w2.heap.size, 0, none⟩) 1 1) HBa.out HG.out (blk_lt HX2.out) (fun i hi => by
                have e : i = 0 := by have hi : i < 1 := hi; omega
                subst e; rfl) (.inl rfl) (Nat.le_refl _) (by simp)
              exact ⟨⟨4, 0, 0, [y]⟩, _, 1, rfl, e1, e2, e3, fun _ => .inr (.inr ⟨HRun.out, hd, by rw [HY0.out]; exact hs, rfl, by rw [HY0.out]⟩), fun h => by cases h⟩
            · have p3 : ¬ (0 : Int) ≤ r := fun h => hs (hr.1 h)
              clear hr
              go_wp2_with (first | (go_at_call 28; refine (HS.out _).mono ?_; rintro e w' ⟨rfl, hw⟩; rw [hw]; clear hw))
              refine bodyPost_ret (results_row_tmp rfl _ _ gb 34 #[.int .i64 0, .int .i64 0, .int .i64 0, .slice none 0 0] (0, 0) _ rfl (set4 HX2.out _ _ _ _) Tryd.underlying34 rfl (by kernel_rfl)) rfl ?_
              exact ⟨⟨0, 0, 0, []⟩, _, 0, rfl, .inl ⟨rfl, rfl⟩, fun k hk => by simp [Own, Value.ownBlock] at hk, below4 HBa.out HG.out _ _ _ _, fun h => absurd h (Nat.lt_irrefl _), fun _ => .inr ⟨HRun.out, hd, by rw [HY0.out]; exact hs⟩⟩
        · exfalso; omega
      · rcases h3 with ⟨hlt, hin⟩ | rfl
        · have p0 : (i : Int) < (n : Int) := by omega
          have x2 := HR3.out i hlt
          have HIi := Lib.hid (fun w => HI.out (l.getD i 0) w)
          rw [hin] at HIi
          have p2 : (0 : Int) < (i : Int) := by omega
          have HPi := Lib.hid (HP.out i hi)
          go_upto_region 8 with (first | (go_at_call 24; refine (HIi.out _).mono ?_; rintro e w' ⟨rfl, rfl⟩) | (go_at_call 25; refine HPi.out.mono ?_; rintro e w2 ⟨t, v3, ok, he, hR, hb, hy, hno⟩; unfold Tok at he; subst he; obtain ⟨Av, cv, ev⟩ := Kd.R_slice hR; subst ev; have HRt := Lib.hid hR; have HB2 := Lib.hid hb; have HYes := Lib.hid hy; have HNo := Lib.hid hno; clear hR hb hy hno) | ((with_reducible refine gate_dst (N := 5) rfl ?_); refine box_event ?hg (N := 5) ?hd (cs := #[.int .i64 0, .int .i64 0, .int .i64 0, .slice none 0 0]) (t := 34) ?hr ?_; (case hd => rfl); (case hg => rfl); (case hr => first | (go_simp; done) | (go_simp; rfl)); intro g5 hg w3 hbox hb; have HG5 := Lib.hid hg; have HB3 := Lib.hid hb; have HX5 := Lib.hid hbox; obtain ⟨z0, z1, z2, z3⟩ := four hbox; have f0 := blk_frozen hbox 0; have f1 := blk_frozen hbox 1; have f2 := blk_frozen hbox 2; have f3 := blk_frozen hbox 3; clear hg hbox hb))
          generalize hW : World.setCell _ _ _ = w4
          have hne : gb ≠ g5 := by
            have h1 := blk_lt HX.out
            have h2 := HB2.out.size
            rw [HG5.out]; omega
          obtain ⟨hx4, hxb4, hb4, hr4⟩ := tail_facts HB.out HG.out HX.out HB2.out HB3.out HG5.out HX5.out HRt.out hW.symm
          have HX4 := Lib.hid hx4
          have HXb4 := Lib.hid hxb4
          have HB4 := Lib.hid hb4
          have HR4 := Lib.hid hr4
          clear hx4 hxb4 hb4 hr4 hW z0 z1 z2 z3 f0 f1 f2 f3 HX5 HRt HB2 HB3 HG5 HB HX HPi HP HR3 HI
          obtain ⟨q, hq, hT⟩ := truth_q ok
          have HT := Lib.hid hT
          clear hT
          have hw1 : IntKind.i64.wrap ((i : Int) * q) = (i : Int) * q := wrap_q hq (by omega)
          have HQ := Lib.hid hq
          clear hq
          obtain ⟨z0, z1, z2, z3⟩ := four HX4.out
          obtain ⟨y0, y1, y2, y3⟩ := four HXb4.out
          have f0 := blk_frozen HXb4.out 0
          have f1 := blk_frozen HXb4.out 1
          have f2 := blk_frozen HXb4.out 2
          have f3 := blk_frozen HXb4.out 3
          go_region_held3 (fun w' => w'.cell? ⟨g5, 0, none⟩ = some (.int .i64 t.f0) ∧ w'.cell? ⟨g5, 1, none⟩ = some (.int .i64 t.f1) ∧ w'.cell? ⟨g5, 2, none⟩ = some (.int .i64 t.f2) ∧ w'.cell? ⟨g5, 3, none⟩ = some (.slice Av t.f3.length cv)) (first | go_keep | exact four ((far4 w4 gb _ _ _ _ g5 (Ne.symm hne)).trans HX4.out)) (first | (go_at_call 26; refine (HT.out _).mono ?_; rintro e w' ⟨rfl, rfl⟩))
          go_wp2
          refine bodyPost_ret (results_row_tmp rfl _ _ gb 34 #[.int .i64 t.f0, .int .i64 t.f1, .int .i64 t.f2, .slice Av t.f3.length cv] (0, 0) _ rfl (set4 HXb4.out _ _ _ _) Tryd.underlying34 rfl (by kernel_rfl)) rfl ?_
          exact tail_end HQ.out HR4.out HB4.out HG.out HRun.out hpos HYes.out HNo.out
        · have HNn : True := trivial
          have p2 : (0 : Int) < (i : Int) := by omega
          have HPi := Lib.hid (HP.out i hi)
          go_upto_region 8 with (first | (go_at_call 25; refine HPi.out.mono ?_; rintro e w2 ⟨t, v3, ok, he, hR, hb, hy, hno⟩; unfold Tok at he; subst he; obtain ⟨Av, cv, ev⟩ := Kd.R_slice hR; subst ev; have HRt := Lib.hid hR; have HB2 := Lib.hid hb; have HYes := Lib.hid hy; have HNo := Lib.hid hno; clear hR hb hy hno) | ((with_reducible refine gate_dst (N := 5) rfl ?_); refine box_event ?hg (N := 5) ?hd (cs := #[.int .i64 0, .int .i64 0, .int .i64 0, .slice none 0 0]) (t := 34) ?hr ?_; (case hd => rfl); (case hg => rfl); (case hr => first | (go_simp; done) | (go_simp; rfl)); intro g5 hg w3 hbox hb; have HG5 := Lib.hid hg; have HB3 := Lib.hid hb; have HX5 := Lib.hid hbox; obtain ⟨z0, z1, z2, z3⟩ := four hbox; have f0 := blk_frozen hbox 0; have f1 := blk_frozen hbox 1; have f2 := blk_frozen hbox 2; have f3 := blk_frozen hbox 3; clear hg hbox hb))
          generalize hW : World.setCell _ _ _ = w4
          have hne : gb ≠ g5 := by
            have h1 := blk_lt HX.out
            have h2 := HB2.out.size
            rw [HG5.out]; omega
          obtain ⟨hx4, hxb4, hb4, hr4⟩ := tail_facts HB.out HG.out HX.out HB2.out HB3.out HG5.out HX5.out HRt.out hW.symm
          have HX4 := Lib.hid hx4
          have HXb4 := Lib.hid hxb4
          have HB4 := Lib.hid hb4
          have HR4 := Lib.hid hr4
          clear hx4 hxb4 hb4 hr4 hW z0 z1 z2 z3 f0 f1 f2 f3 HX5 HRt HB2 HB3 HG5 HB HX HPi HP HR3 HI
          obtain ⟨q, hq, hT⟩ := truth_q ok
          have HT := Lib.hid hT
          clear hT
          have hw1 : IntKind.i64.wrap ((i : Int) * q) = (i : Int) * q := wrap_q hq (by omega)
          have HQ := Lib.hid hq
          clear hq
          obtain ⟨z0, z1, z2, z3⟩ := four HX4.out
          obtain ⟨y0, y1, y2, y3⟩ := four HXb4.out
          have f0 := blk_frozen HXb4.out 0
          have f1 := blk_frozen HXb4.out 1
          have f2 := blk_frozen HXb4.out 2
          have f3 := blk_frozen HXb4.out 3
          go_region_held3 (fun w' => w'.cell? ⟨g5, 0, none⟩ = some (.int .i64 t.f0) ∧ w'.cell? ⟨g5, 1, none⟩ = some (.int .i64 t.f1) ∧ w'.cell? ⟨g5, 2, none⟩ = some (.int .i64 t.f2) ∧ w'.cell? ⟨g5, 3, none⟩ = some (.slice Av t.f3.length cv)) (first | go_keep | exact four ((far4 w4 gb _ _ _ _ g5 (Ne.symm hne)).trans HX4.out)) (first | (go_at_call 26; refine (HT.out _).mono ?_; rintro e w' ⟨rfl, rfl⟩))
          go_wp2
          refine bodyPost_ret (results_row_tmp rfl _ _ gb 34 #[.int .i64 t.f0, .int .i64 t.f1, .int .i64 t.f2, .slice Av t.f3.length cv] (0, 0) _ rfl (set4 HXb4.out _ _ _ _) Tryd.underlying34 rfl (by kernel_rfl)) rfl ?_
          exact tail_end HQ.out HR4.out HB4.out HG.out HRun.out hpos HYes.out HNo.out

end Go.Proofs.YtkkodbbgdndhmaaDoor.LxFnExactLex
