/- The contract of impl.nextToken: a minus and no digit. -/
import Derived.Test.YtkkodbbgdndhmaaDoorLxyFnExactLex
import Derived.Test.YtkkodbbgdndhmaaDoorLexDFnExactLex
import Derived.Test.YtkkodbbgdndhmaaDoorLxn0FnExactLex
import Derived.Deep.RegionHeld3
namespace Go.Proofs.YtkkodbbgdndhmaaDoor.LxFnExactLex
open Go.RowKit Go.Proofs.YtkkodbbgdndhmaaDoor.QFnExactLex Go.Proofs.YtkkodbbgdndhmaaDoorW.PrintWords Go.Proofs.YtkkodbbgdndhmaaDoorW.PrintLast Go.Proofs.YtkkodbbgdndhmaaDoor.LexA Go.Proofs.YtkkodbbgdndhmaaDoor.Fw
set_option linter.unusedSimpArgs false
set_option linter.unusedVariables false

set_option maxHeartbeats 16000000 in
set_option maxRecDepth 100000 in
theorem next_dash (hpc : PieceC) (A : Option Addr) (c : Nat) (l : List Int) (w : World) (hr : Kd.C (Kd.int .u8) w A l.length l) (hc : l.length ≤ c) (h0 : 0 < l.length) (hl : l.length ≤ 6000) (hby : Byt l) (hL : LW w) (h45 : l.getD 0 0 = 45) (hno : ¬ (1 < l.length ∧ digitB (l.getD 1 0) = true)) :
    Calls Tryd.prog 17 #[.slice A l.length c] w (NextV l w) := by
  have hu34 := Tryd.underlying34
  obtain ⟨ad, e1, x0⟩ := Kd.at_int hr 0 (by omega) (by omega)
  subst e1
  rw [show (0 : Int).toNat = 0 from rfl, Addr.add_zero', show rd l 0 = l.getD 0 0 from rfl] at x0
  have HR2 : Hid (∀ i : Nat, i < l.length → w.cell? (ad.add i) = some (.int .u8 (l.getD i 0))) := Lib.hid (fun i hi => by
    obtain ⟨ad', e2, x1⟩ := Kd.at_int hr (i : Int) (by omega) (by omega)
    injection e2 with e2
    subst e2
    rw [Int.toNat_natCast] at x1
    exact x1)
  have HR := Lib.hid hr
  have HY := Lib.hid hby
  have HL := Lib.hid hL
  clear hr hby hL
  obtain ⟨n, hn⟩ : ∃ n, n = l.length := ⟨_, rfl⟩
  have HN := Lib.hid hn
  rw [← hn] at h0 hl hc ⊢
  rw [← hn] at hno
  clear hn
  go_enter Tryd.func17, Tryd.ntmps17
  go_upto_region 1 with ((with_reducible refine gate_dst (N := 2) rfl ?_); refine box_event ?hg (N := 2) ?hd (cs := #[.int .i64 0, .int .i64 0, .int .i64 0, .slice none 0 0]) (t := 34) ?hr ?_; (case hd => rfl); (case hg => rfl); (case hr => first | (go_simp; done) | (go_simp; rfl)); intro gb hg w1 hbox hb; have HG := Lib.hid (Nat.le_of_eq hg.symm); have HB := Lib.hid hb; have HX := Lib.hid hbox; clear hg hbox hb)
  have x1 : w1.cell? ad = some (.int .u8 (l.getD 0 0)) := pw_cell_below HB.out x0
  have HR3 : Hid (∀ i : Nat, i < n → w1.cell? (ad.add i) = some (.int .u8 (l.getD i 0))) := Lib.hid (fun i hi => pw_cell_below HB.out (HR2.out i (by rw [← HN.out]; exact hi)))
  have HL1 := Lib.hid (HL.out.below HB.out)
  have HP : Hid (∀ i : Nat, i ≤ n → Calls Tryd.prog 25 #[.slice (some ad) i c] w1 (Piece (l.take i) w1)) := Lib.hid (fun i hi => by
    have hC := Kd.C_take (Kd.C_below HR.out HB.out) (m := i) (by rw [← HN.out]; exact hi)
    have hlen : (l.take i).length = i := by rw [List.length_take, ← HN.out]; omega
    have h := hpc (some ad) c (l.take i) w1 hC (by omega) (by omega) (HY.out.take i) HL1.out
    rw [hlen] at h
    exact h)
  have HD := Lib.hid (fun y w => digit_c y w)
  have HI := Lib.hid (fun y w => inner_c y w)
  have HC1 := Lib.hid (Kd.C_below HR.out HB.out)
  clear x0 HR2 HR HL HL1
  have HLd : Hid (lead l = 0) := Lib.hid (by unfold lead; rw [if_neg (fun h => hno ⟨by rw [HN.out]; exact h.2.1, h.2.2⟩)])
  have HY0 := Lib.hid h45
  rw [h45] at x1
  clear h45
  have h2 : (1 < n ∧ digitB (l.getD 1 0) = false) ∨ ¬ 1 < n := by
    by_cases h : 1 < n
    · exact .inl ⟨h, Bool.eq_false_iff.2 (fun h3 => hno ⟨h, h3⟩)⟩
    · exact .inr h
  clear hno
  have HIi : Hid (∀ w, Calls Tryd.prog 24 #[.int .u8 45] w fun e w' => e = .returned (.bool false) ∧ w' = w) := Lib.hid (fun w => HI.out 45 w)
  have HRun : Hid (IsRun l 0) := Lib.hid (by
    rw [IsRun, HLd.out]
    exact ⟨Nat.le_refl _, Nat.zero_le _, fun j h1 h2 => by omega, fun _ => by rw [HY0.out]; rfl⟩)
  have p0 : ((0 : Nat) : Int) < (n : Int) := by omega
  have p4 : (0 : Int) < (n : Int) := by omega
  rcases h2 with ⟨hn1, hdg⟩ | hn1
  · have y1 := HR3.out 1 hn1
    rw [show ad.add 1 = (⟨ad.block, ad.off + 1, none⟩ : Addr) from Addr.add_succ' ad 0] at y1
    have HD1 := Lib.hid (fun w => HD.out (l.getD 1 0) w)
    rw [hdg] at HD1
    have p1 : (1 : Int) < (n : Int) := by omega
    clear hdg
    go_wp2_with (go_at_call 23; refine (HD1.out _).mono ?_; rintro e w' ⟨rfl, rfl⟩)
    clear HD1 y1 p1
    go_loop [4] (fun v4 => v4 = .int .i64 0) (fun v4 => (n - intOf v4).toNat)
    case atStart => rfl
    case round =>
      subst hrel
      have kc : ∀ (w : World) (C : Array Value) (n c : Nat), (convert 22 22 (.slice (some ⟨w.heap.size, 0, none⟩) n c)).run Tryd.prog (w.alloc (.cells C 5)) = .ok (.slice (some ⟨w.heap.size, 0, none⟩) n c) (w.alloc (.cells C 5 (C.size, C.size + 1))) := fun w C n c => Lib.run_convert_bytes_const (P := Tryd.prog) w 22 5 C n c Tryd.underlying22 Tryd.underlying5
      have hd : ¬ Dbl l := fun h => absurd (HY0.out.symm.trans h.1) (by decide)
      have d1 : decide (Dbl l) = false := decide_eq_false hd
      obtain ⟨r, hr, hS⟩ := sign_c 45 (by decide) (by decide)
      have HS := Lib.hid hS
      clear hS
      go_upto_region 11 with (first | (go_at_call 24; refine (HIi.out _).mono ?_; rintro e w' ⟨rfl, rfl⟩) | (go_at_call 27; refine (dbl_c ad n c l _ _ _ HN.out h0 hc HY.out (fun i hi => pw_cell_below (below_alloc (Below.refl _ _) _) (HR3.out i hi)) ((cell_blk (blk_new _ _) 0).trans rfl) ((cell_blk (blk_new _ _) 1).trans rfl)).mono ?_; rintro e w2 ⟨rfl, hw2⟩; have HW2 := Lib.hid hw2; clear hw2))
      have HBa : Hid (Below w.heap.size w w2) := Lib.hid (by rw [HW2.out]; exact below_step HB.out (below_alloc (Below.refl _ _) _))
      have HX2 : Hid (w2.heap[gb]? = some (.cells #[.int .i64 0, .int .i64 0, .int .i64 0, .slice none 0 0] 34 (0, 0))) := Lib.hid (by rw [HW2.out]; exact blk_below HX.out (below_alloc (Below.refl _ _) _))
      have x3 : w2.cell? ad = some (.int .u8 45) := by
        have h := HR3.out 0 h0
        rw [Addr.add_zero', HY0.out] at h
        rw [HW2.out]
        exact pw_cell_below (below_alloc (Below.refl _ _) _) h
      obtain ⟨z0, z1, z2, z3⟩ := four HX2.out
      have f0 := blk_frozen HX2.out 0
      have f1 := blk_frozen HX2.out 1
      have f2 := blk_frozen HX2.out 2
      have f3 := blk_frozen HX2.out 3
      clear HW2
      clear d1
      have hs : (45 : Int) ∈ signs := by decide
      have p3 : (0 : Int) ≤ r := hr.2 hs
      clear hr
      have HXn := Lib.hid (blk_below HX2.out (below_alloc (Below.refl _ _) (.cells #[.int .u8 45] 5 (0, 0))))
      clear z0 z1 z2 z3 f0 f1 f2 f3
      obtain ⟨z0, z1, z2, z3⟩ := four HXn.out
      have f0 := blk_frozen HXn.out 0
      have f1 := blk_frozen HXn.out 1
      have f2 := blk_frozen HXn.out 2
      have f3 := blk_frozen HXn.out 3
      go_wp2_with (first | (go_at_call 28; refine (HS.out _).mono ?_; rintro e w' ⟨rfl, hw⟩; rw [hw]; clear hw))
      refine bodyPost_ret (results_row_tmp rfl _ _ gb 34 #[.int .i64 4, .int .i64 0, .int .i64 0, .slice (some ⟨w2.heap.size, 0, none⟩) 1 1] (0, 0) _ rfl (set4 HXn.out _ _ _ _) Tryd.underlying34 rfl (by kernel_rfl)) rfl ?_
      obtain ⟨e1, e2, e3⟩ := lit_end (cap := 1) (arr := #[.int .u8 45]) (fz := (0, 0)) (xs := [45]) (.int .i64 4) (.int .i64 0) (.int .i64 0) (.slice (some ⟨w2.heap.size, 0, none⟩) 1 1) HBa.out HG.out (blk_lt HX2.out) (fun i hi => by
        have e : i = 0 := by have hi : i < 1 := hi; omega
        subst e; rfl) (.inl rfl) (Nat.le_refl _) (by simp)
      exact ⟨⟨4, 0, 0, [45]⟩, _, 1, rfl, e1, e2, e3, fun _ => .inr (.inr ⟨HRun.out, hd, by rw [HY0.out]; exact hs, rfl, by rw [HY0.out]⟩), fun h => by cases h⟩
  · have p1 : ¬ (1 : Int) < (n : Int) := by omega
    go_wp2
    clear p1
    go_loop [4] (fun v4 => v4 = .int .i64 0) (fun v4 => (n - intOf v4).toNat)
    case atStart => rfl
    case round =>
      subst hrel
      have kc : ∀ (w : World) (C : Array Value) (n c : Nat), (convert 22 22 (.slice (some ⟨w.heap.size, 0, none⟩) n c)).run Tryd.prog (w.alloc (.cells C 5)) = .ok (.slice (some ⟨w.heap.size, 0, none⟩) n c) (w.alloc (.cells C 5 (C.size, C.size + 1))) := fun w C n c => Lib.run_convert_bytes_const (P := Tryd.prog) w 22 5 C n c Tryd.underlying22 Tryd.underlying5
      have hd : ¬ Dbl l := fun h => absurd (HY0.out.symm.trans h.1) (by decide)
      have d1 : decide (Dbl l) = false := decide_eq_false hd
      obtain ⟨r, hr, hS⟩ := sign_c 45 (by decide) (by decide)
      have HS := Lib.hid hS
      clear hS
      go_upto_region 11 with (first | (go_at_call 24; refine (HIi.out _).mono ?_; rintro e w' ⟨rfl, rfl⟩) | (go_at_call 27; refine (dbl_c ad n c l _ _ _ HN.out h0 hc HY.out (fun i hi => pw_cell_below (below_alloc (Below.refl _ _) _) (HR3.out i hi)) ((cell_blk (blk_new _ _) 0).trans rfl) ((cell_blk (blk_new _ _) 1).trans rfl)).mono ?_; rintro e w2 ⟨rfl, hw2⟩; have HW2 := Lib.hid hw2; clear hw2))
      have HBa : Hid (Below w.heap.size w w2) := Lib.hid (by rw [HW2.out]; exact below_step HB.out (below_alloc (Below.refl _ _) _))
      have HX2 : Hid (w2.heap[gb]? = some (.cells #[.int .i64 0, .int .i64 0, .int .i64 0, .slice none 0 0] 34 (0, 0))) := Lib.hid (by rw [HW2.out]; exact blk_below HX.out (below_alloc (Below.refl _ _) _))
      have x3 : w2.cell? ad = some (.int .u8 45) := by
        have h := HR3.out 0 h0
        rw [Addr.add_zero', HY0.out] at h
        rw [HW2.out]
        exact pw_cell_below (below_alloc (Below.refl _ _) _) h
      obtain ⟨z0, z1, z2, z3⟩ := four HX2.out
      have f0 := blk_frozen HX2.out 0
      have f1 := blk_frozen HX2.out 1
      have f2 := blk_frozen HX2.out 2
      have f3 := blk_frozen HX2.out 3
      clear HW2
      clear d1
      have hs : (45 : Int) ∈ signs := by decide
      have p3 : (0 : Int) ≤ r := hr.2 hs
      clear hr
      have HXn := Lib.hid (blk_below HX2.out (below_alloc (Below.refl _ _) (.cells #[.int .u8 45] 5 (0, 0))))
      clear z0 z1 z2 z3 f0 f1 f2 f3
      obtain ⟨z0, z1, z2, z3⟩ := four HXn.out
      have f0 := blk_frozen HXn.out 0
      have f1 := blk_frozen HXn.out 1
      have f2 := blk_frozen HXn.out 2
      have f3 := blk_frozen HXn.out 3
      go_wp2_with (first | (go_at_call 28; refine (HS.out _).mono ?_; rintro e w' ⟨rfl, hw⟩; rw [hw]; clear hw))
      refine bodyPost_ret (results_row_tmp rfl _ _ gb 34 #[.int .i64 4, .int .i64 0, .int .i64 0, .slice (some ⟨w2.heap.size, 0, none⟩) 1 1] (0, 0) _ rfl (set4 HXn.out _ _ _ _) Tryd.underlying34 rfl (by kernel_rfl)) rfl ?_
      obtain ⟨e1, e2, e3⟩ := lit_end (cap := 1) (arr := #[.int .u8 45]) (fz := (0, 0)) (xs := [45]) (.int .i64 4) (.int .i64 0) (.int .i64 0) (.slice (some ⟨w2.heap.size, 0, none⟩) 1 1) HBa.out HG.out (blk_lt HX2.out) (fun i hi => by
        have e : i = 0 := by have hi : i < 1 := hi; omega
        subst e; rfl) (.inl rfl) (Nat.le_refl _) (by simp)
      exact ⟨⟨4, 0, 0, [45]⟩, _, 1, rfl, e1, e2, e3, fun _ => .inr (.inr ⟨HRun.out, hd, by rw [HY0.out]; exact hs, rfl, by rw [HY0.out]⟩), fun h => by cases h⟩

end Go.Proofs.YtkkodbbgdndhmaaDoor.LxFnExactLex
