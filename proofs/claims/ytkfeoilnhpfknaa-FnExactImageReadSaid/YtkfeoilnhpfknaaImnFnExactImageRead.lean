/- The contract of impl.ImageOk. -/
import Derived.Test.YtkfeoilnhpfknaaImjFnExactImageRead
namespace Go.Proofs.Ytkfeoilnhpfknaa.ImFnExactImageRead
open Go.RowKit Go.Proofs.Ytkfeoilnhpfknaa.QFnExactImageRead Go.Proofs.YtkfeoilnhpfknaaW.PrintWords Go.Proofs.YtkfeoilnhpfknaaW.PrintLast

def ImgOk (l0 : List (List Bool)) (l1 : List S53) (a2 : Int) : Prop := ((l0.length : Int) ≤ 6 ∧ (l1.length : Int) ≤ 8 ∧ inB a2 0 ((l1.length : Int) - 1) = true ∧ (rd_T53 l1 a2).f1 = 0) ∧ l0.any (fun s => decide (5 < s.length)) = false ∧ (∀ j : Nat, j < l1.length → CodeOk l0.length l1.length (rd_T53 l1 j)) ∧ ((imgB l0 l1 a2).length : Int) ≤ 200000

theorem len0 {l0 : List (List Bool)} {l1 : List S53} {a2 : Int} {n : Nat} (h : (imgB l0 l1 a2).length ≤ n) : l0.length ≤ n := by
  have := flat_count l0 structB 1 (fun x => by simp only [structB, List.length_append, putB_len, List.length_cons]; omega)
  unfold imgB at h
  rw [List.length_append, List.length_append] at h
  omega
theorem len1 {l0 : List (List Bool)} {l1 : List S53} {a2 : Int} {n : Nat} (h : (imgB l0 l1 a2).length ≤ n) : l1.length ≤ n := by
  have := flat_count l1 codeB 1 (fun x => by simp only [codeB, List.length_append, putB_len, List.length_cons]; omega)
  unfold imgB at h
  rw [List.length_append, List.length_append] at h
  omega
theorem rd53_get (l1 : List S53) (j : Nat) : rd_T53 l1 j = l1.getD j z53 := by unfold rd_T53; rw [Int.toNat_natCast]
theorem lenC {l0 : List (List Bool)} {l1 : List S53} {a2 : Int} {n : Nat} (h : (imgB l0 l1 a2).length ≤ n) {j : Nat} (hj : j < l1.length) : (codeB (rd_T53 l1 j)).length ≤ n := by
  have := flat_lt l1 z53 codeB hj
  rw [← rd53_get] at this
  unfold imgB at h
  rw [List.length_append, List.length_append] at h
  omega
theorem lenI {c : S53} {n : Nat} (h : (codeB c).length ≤ n) : c.f2.length ≤ n := by
  have := flat_count c.f2 insB 1 (fun x => by simp [insB])
  unfold codeB at h
  rw [List.length_append, List.length_append] at h
  omega
theorem lenM {c : S53} {n : Nat} (h : (codeB c).length ≤ n) : c.f3.length ≤ n := by
  have := flat_count c.f3 mapB 1 (fun x => by simp only [mapB, List.length_append, putB_len, List.length_cons]; omega)
  unfold codeB at h
  rw [List.length_append, List.length_append] at h
  omega
theorem lenS {c : S53} {n : Nat} (h : (codeB c).length ≤ n) {j : Nat} (hj : j < c.f3.length) : (rd_T72 c.f3 j).f1.length ≤ n := by
  have := flat_lt c.f3 z72 mapB hj
  have e : rd_T72 c.f3 j = c.f3.getD j z72 := by unfold rd_T72; rw [Int.toNat_natCast]
  rw [← e] at this
  unfold codeB at h
  rw [List.length_append, List.length_append] at h
  have h2 : (rd_T72 c.f3 j).f1.length ≤ (mapB (rd_T72 c.f3 j)).length := by simp only [mapB, List.length_append, putB_len]; omega
  omega

theorem contains_v (v : Bool) (A : Option Addr) (c : Nat) (l : List (List Bool)) (w : World) (hl : l.length ≤ 1099511627776) (hr : Kd.C (Kd.slice 4 Kd.bool) w A l.length l) (h : l.any (fun s => decide (5 < s.length)) = v) : Calls Try.prog 28 #[.slice A l.length c, .func (.func 29) #[] #[]] w fun e w' => e = .returned (.bool v) ∧ w = w' := by
  rw [← h]; exact contains A c l w hl hr

set_option maxHeartbeats 8000000 in
set_option maxRecDepth 100000 in
theorem image_c (A0 : Option Addr) (c0 : Nat) (l0 : List (List Bool)) (A1 : Option Addr) (c1 : Nat) (l1 : List S53) (a2 : Int) (w : World) (hr0 : Kd.C (Kd.slice 4 Kd.bool) w A0 l0.length l0) (hr1 : Kd.C k53 w A1 l1.length l1) (hsz : (imgB l0 l1 a2).length ≤ 1099511627) :
    Calls Try.prog 9 #[.agg #[.slice A0 l0.length c0, .slice A1 l1.length c1, .int .i64 a2]] w (Tells (ImgOk l0 l1 a2) w) := by
  have HSz := Lib.hid hsz
  have hu30 := Try.underlying30
  have HR0 := Lib.hid hr0
  have HR1 := Lib.hid hr1
  have hn0 := len0 hsz
  have hn1 := len1 hsz
  clear hr0 hr1 hsz
  by_cases k1 : 6 < (l0.length : Int)
  · have HN : Hid (¬ ImgOk l0 l1 a2) := Lib.hid (fun h => by have := h.1.1; omega)
    have d1 : decide (6 < (l0.length : Int)) = true := decide_eq_true k1
    clear k1
    go_enter Try.func9, Try.ntmps9
    go_wp2_with ((with_reducible refine gate_dst (N := 1) rfl ?_); refine box_event ?hg (N := 1) ?hd (cs := #[.slice A0 l0.length c0, .slice A1 l1.length c1, .int .i64 a2]) (t := 30) ?hr ?_; (case hd => rfl); (case hg => rfl); (case hr => first | (go_simp; done) | (go_simp; rfl)); intro gb hg w6 hbox hb; have HG := Lib.hid (Nat.le_of_eq hg.symm); clear hg; have HB := Lib.hid hb; have HX := Lib.hid hbox; have z0 := (blk_cell hbox 0).trans rfl; have z1 := (blk_cell hbox 1).trans rfl; have z2 := (blk_cell hbox 2).trans rfl; clear hbox hb)
    go_ret
    exact tells_no HN.out HB.out
  have k1' := Int.not_lt.1 k1
  have d1 : decide (6 < (l0.length : Int)) = false := decide_eq_false k1
  clear k1
  by_cases k2 : 8 < (l1.length : Int)
  · have HN : Hid (¬ ImgOk l0 l1 a2) := Lib.hid (fun h => by have := h.1.2.1; omega)
    have d2 : decide (8 < (l1.length : Int)) = true := decide_eq_true k2
    clear k2
    go_enter Try.func9, Try.ntmps9
    go_wp2_with ((with_reducible refine gate_dst (N := 1) rfl ?_); refine box_event ?hg (N := 1) ?hd (cs := #[.slice A0 l0.length c0, .slice A1 l1.length c1, .int .i64 a2]) (t := 30) ?hr ?_; (case hd => rfl); (case hg => rfl); (case hr => first | (go_simp; done) | (go_simp; rfl)); intro gb hg w6 hbox hb; have HG := Lib.hid (Nat.le_of_eq hg.symm); clear hg; have HB := Lib.hid hb; have HX := Lib.hid hbox; have z0 := (blk_cell hbox 0).trans rfl; have z1 := (blk_cell hbox 1).trans rfl; have z2 := (blk_cell hbox 2).trans rfl; clear hbox hb)
    go_ret
    exact tells_no HN.out HB.out
  have k2' := Int.not_lt.1 k2
  have d2 : decide (8 < (l1.length : Int)) = false := decide_eq_false k2
  clear k2
  cases hA : inB a2 0 ((l1.length : Int) - 1)
  · have HN : Hid (¬ ImgOk l0 l1 a2) := Lib.hid (fun h => by have := h.1.2.2.1; rw [hA] at this; cases this)
    have HA := Lib.hid hA
    clear hA
    go_enter Try.func9, Try.ntmps9
    go_wp2_with (first | ((with_reducible refine gate_dst (N := 1) rfl ?_); refine box_event ?hg (N := 1) ?hd (cs := #[.slice A0 l0.length c0, .slice A1 l1.length c1, .int .i64 a2]) (t := 30) ?hr ?_; (case hd => rfl); (case hg => rfl); (case hr => first | (go_simp; done) | (go_simp; rfl)); intro gb hg w6 hbox hb; have HG := Lib.hid (Nat.le_of_eq hg.symm); clear hg; have HB := Lib.hid hb; have HX := Lib.hid hbox; have z0 := (blk_cell hbox 0).trans rfl; have z1 := (blk_cell hbox 1).trans rfl; have z2 := (blk_cell hbox 2).trans rfl; clear hbox hb) | (go_at_call 27; refine (in_vq _ _ _ _ HA.out _).mono ?_; rintro e w' ⟨rfl, rfl⟩))
    go_ret
    exact tells_no HN.out HB.out
  have hA2 : 0 ≤ a2 ∧ a2 ≤ (l1.length : Int) - 1 := by
    unfold inB at hA
    split at hA
    · exact ⟨by assumption, of_decide_eq_true hA⟩
    · cases hA
  have HA := Lib.hid hA
  clear hA
  have p0 : 0 ≤ a2 := hA2.1
  have q0 : a2 < (l1.length : Int) := by omega
  obtain ⟨ad, A2, c2, A3, c3, e1, x0, x1, x2, x3, _, g2, _, g3⟩ := at_T53 HR1.out a2 p0 q0
  subst e1
  clear x0 x2 x3 g2 g3
  by_cases k4 : (rd_T53 l1 a2).f1 = 0
  · have K4 := Lib.hid k4
    have d4 : ((rd_T53 l1 a2).f1 != 0) = false := bne_eq_false_iff_eq.2 k4
    clear k4
    cases hC : l0.any (fun s => decide (5 < s.length))
    · have HCn := Lib.hid hC
      clear hC
      go_enter Try.func9, Try.ntmps9
      go_wp2_with (first | ((with_reducible refine gate_dst (N := 1) rfl ?_); refine box_event ?hg (N := 1) ?hd (cs := #[.slice A0 l0.length c0, .slice (some ad) l1.length c1, .int .i64 a2]) (t := 30) ?hr ?_; (case hd => rfl); (case hg => rfl); (case hr => first | (go_simp; done) | (go_simp; rfl)); intro gb hg w6 hbox hb; have HG := Lib.hid (Nat.le_of_eq hg.symm); clear hg; have HB := Lib.hid hb; have HX := Lib.hid hbox; have z0 := (blk_cell hbox 0).trans rfl; have z1 := (blk_cell hbox 1).trans rfl; have z2 := (blk_cell hbox 2).trans rfl; clear hbox hb) | (go_at_call 27; refine (in_vq _ _ _ _ HA.out _).mono ?_; rintro e w' ⟨rfl, rfl⟩; replace x1 := pw_cell_below HB.out x1) | (go_at_call 28; refine (contains_v _ _ _ _ _ (by omega) (Kd.C_below HR0.out HB.out) HCn.out).mono ?_; rintro e w' ⟨rfl, rfl⟩))
      clear x1 z0 z1 z2 d1 d2 d4
      go_loopw [3, 40] (fun v3 v40 wr => ∃ i : Nat, v40 = .int .i64 i ∧ i ≤ l1.length ∧ Hid (∀ j : Nat, j < i → CodeOk l0.length l1.length (rd_T53 l1 j)) ∧ Hid (Below w.heap.size w wr) ∧ Hid (wr.heap[gb]? = some (.cells #[.slice A0 l0.length c0, .slice (some ad) l1.length c1, .int .i64 a2] 30 (0, 0)))) (fun _ v40 _ => (l1.length - intOf v40).toNat)
      case atStart => exact ⟨0, rfl, by omega, Lib.hid (fun j hj => absurd hj (by omega)), HB, HX⟩
      case round =>
        clear HB HX
        obtain ⟨i, rfl, hi, HF, HB, HX⟩ := hrel
        have HM : Hid (MemI wr gb l0 l1 a2) := Lib.hid ⟨A0, c0, some ad, c1, HX.out, Kd.C_below HR0.out HB.out, Kd.C_below HR1.out HB.out⟩
        have z1 := (blk_cell HX.out 1).trans rfl
        by_cases hlt : i < l1.length
        · have p1 : (0 : Int) ≤ (i : Int) := by omega
          have q1 : (i : Int) < (l1.length : Int) := by omega
          obtain ⟨ad2, B2, d2, B3, d3, e1, x0, x1, x2, x3, _, g2, _, g3⟩ := at_T53 HR1.out i p1 q1
          obtain rfl : ad = ad2 := Option.some.inj e1
          clear e1
          rw [Int.toNat_natCast] at x0 x1 x2 x3
          have HMC : Hid (MemC wr (ad.add (i * 4)) (rd_T53 l1 i)) := Lib.hid (MemC.below ⟨B2, d2, B3, d3, x0, x1, x2, x3, g2, g3⟩ HB.out)
          clear x0 x1 x2 x3 g2 g3
          have HLc := Lib.hid (lenC HSz.out hlt)
          go_wp2_with fail
          refine (code_c gb (ad.add (i * 4)) l0 l1 a2 (rd_T53 l1 i) wr (by have := lenM HLc.out; omega) (by have := lenI HLc.out; omega) (fun j hj => by have := lenS HLc.out hj; omega) HM.out HMC.out).mono ?_
          rintro e w9 ⟨b, rfl, hbi, hb⟩
          have HB9 := Lib.hid (below_step HB.out hb)
          have HX9 := Lib.hid (blk_below HX.out hb)
          clear hb z1
          cases b
          · have HN : Hid (¬ ImgOk l0 l1 a2) := Lib.hid (fun h => by have := hbi.2 (h.2.2.1 i hlt); cases this)
            clear hbi
            go_wp2
            go_ret
            exact tells_no HN.out HB9.out
          · have HF2 : Hid (∀ j : Nat, j < i + 1 → CodeOk l0.length l1.length (rd_T53 l1 j)) := Lib.hid (fun j hj => by
              by_cases e : j = i
              · subst e; exact hbi.1 rfl
              · exact HF.out j (by omega))
            clear hbi
            go_wp2
            go_roundw
            case rel => exact ⟨i + 1, by go_num, by omega, HF2, HB9, HX9⟩
            case measure => simp [intOf]; omega
        · obtain rfl : i = l1.length := by omega
          go_wp2_with fail
          refine (bytes_c gb l0 l1 a2 wr (by omega) (by omega) HM.out HSz.out).mono ?_
          rintro e w9 ⟨v, rfl, h2, h3⟩
          obtain ⟨Ar, cr, rfl⟩ := h2.slice
          have HB9 := Lib.hid (below_step HB.out h3)
          have HE : Hid (decide (((imgB l0 l1 a2).length : Int) ≤ 200000) = true ↔ ImgOk l0 l1 a2) := Lib.hid (by
            rw [decide_eq_true_iff]
            exact ⟨fun h => ⟨⟨k1', k2', HA.out, K4.out⟩, HCn.out, HF.out, h⟩, fun h => h.2.2.2⟩)
          clear h2 h3 z1
          go_wp2
          go_ret
          exact tells_is HE.out HB9.out
    · have HN : Hid (¬ ImgOk l0 l1 a2) := Lib.hid (fun h => by have := h.2.1; rw [hC] at this; cases this)
      have HCn := Lib.hid hC
      clear hC
      go_enter Try.func9, Try.ntmps9
      go_wp2_with (first | ((with_reducible refine gate_dst (N := 1) rfl ?_); refine box_event ?hg (N := 1) ?hd (cs := #[.slice A0 l0.length c0, .slice (some ad) l1.length c1, .int .i64 a2]) (t := 30) ?hr ?_; (case hd => rfl); (case hg => rfl); (case hr => first | (go_simp; done) | (go_simp; rfl)); intro gb hg w6 hbox hb; have HG := Lib.hid (Nat.le_of_eq hg.symm); clear hg; have HB := Lib.hid hb; have HX := Lib.hid hbox; have z0 := (blk_cell hbox 0).trans rfl; have z1 := (blk_cell hbox 1).trans rfl; have z2 := (blk_cell hbox 2).trans rfl; clear hbox hb) | (go_at_call 27; refine (in_vq _ _ _ _ HA.out _).mono ?_; rintro e w' ⟨rfl, rfl⟩; replace x1 := pw_cell_below HB.out x1) | (go_at_call 28; refine (contains_v _ _ _ _ _ (by omega) (Kd.C_below HR0.out HB.out) HCn.out).mono ?_; rintro e w' ⟨rfl, rfl⟩))
      go_ret
      exact tells_no HN.out HB.out
  · have HN : Hid (¬ ImgOk l0 l1 a2) := Lib.hid (fun h => k4 h.1.2.2.2)
    have d4 : ((rd_T53 l1 a2).f1 != 0) = true := bne_iff_ne.2 k4
    clear k4
    go_enter Try.func9, Try.ntmps9
    go_wp2_with (first | ((with_reducible refine gate_dst (N := 1) rfl ?_); refine box_event ?hg (N := 1) ?hd (cs := #[.slice A0 l0.length c0, .slice (some ad) l1.length c1, .int .i64 a2]) (t := 30) ?hr ?_; (case hd => rfl); (case hg => rfl); (case hr => first | (go_simp; done) | (go_simp; rfl)); intro gb hg w6 hbox hb; have HG := Lib.hid (Nat.le_of_eq hg.symm); clear hg; have HB := Lib.hid hb; have HX := Lib.hid hbox; have z0 := (blk_cell hbox 0).trans rfl; have z1 := (blk_cell hbox 1).trans rfl; have z2 := (blk_cell hbox 2).trans rfl; clear hbox hb) | (go_at_call 27; refine (in_vq _ _ _ _ HA.out _).mono ?_; rintro e w' ⟨rfl, rfl⟩; replace x1 := pw_cell_below HB.out x1))
    go_ret
    exact tells_no HN.out HB.out

end Go.Proofs.Ytkfeoilnhpfknaa.ImFnExactImageRead
