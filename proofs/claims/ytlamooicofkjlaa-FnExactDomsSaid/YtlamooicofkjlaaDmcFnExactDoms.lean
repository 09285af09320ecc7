/- The contract of (*impl.Fn).edgesOk. -/
import Derived.Test.YtlamooicofkjlaaDmbFnExactDoms
namespace Go.Proofs.Ytlamooicofkjlaa.DmFnExactDoms
open Go.RowKit Go.Proofs.Ytlamooicofkjlaa.QFnExactDoms Go.Proofs.YtlamooicofkjlaaW.PrintWords Go.Proofs.YtlamooicofkjlaaW.PrintLast Go.Proofs.Ytlamooicofkjlaa.SrFnExactDoms
set_option linter.unusedVariables false

/-- Few blocks, and all edges lead to blocks. -/
def EOk (B : List S70) : Prop := B.length ≤ 400 ∧ ∀ u, u < B.length → (eds B u).any (fun s => bad B.length s.f0) = false
/-- A bool tells whether P. -/
def TellsB (P : Prop) (w : World) (e : Ending) (w' : World) : Prop := ∃ b : Bool, e = .returned (.bool b) ∧ (b = true ↔ P) ∧ Below w.heap.size w w'

theorem set5 {w : World} {g t : Nat} {a b c d e : Value} (h : w.heap[g]? = some (.cells #[a, b, c, d, e] t (0, 0))) (a1 b1 c1 d1 e1 : Value) : (((((w.setCell ⟨g, 0, none⟩ a1).setCell ⟨g, 1, none⟩ b1).setCell ⟨g, 2, none⟩ c1).setCell ⟨g, 3, none⟩ d1).setCell ⟨g, 4, none⟩ e1).heap[g]? = some (.cells #[a1, b1, c1, d1, e1] t (0, 0)) := by
  simpa using blk_set (blk_set (blk_set (blk_set (blk_set h 0 a1) 1 b1) 2 c1) 3 d1) 4 e1
theorem below5 {w0 w : World} {g : Nat} (hb : Below w0.heap.size w0 w) (hg : w0.heap.size ≤ g) (a1 b1 c1 d1 e1 : Value) : Below w0.heap.size w0 (((((w.setCell ⟨g, 0, none⟩ a1).setCell ⟨g, 1, none⟩ b1).setCell ⟨g, 2, none⟩ c1).setCell ⟨g, 3, none⟩ d1).setCell ⟨g, 4, none⟩ e1) :=
  below_set (below_set (below_set (below_set (below_set hb hg) hg) hg) hg) hg
theorem set2 {w : World} {g t : Nat} {a b : Value} (h : w.heap[g]? = some (.cells #[a, b] t (0, 0))) (a1 b1 : Value) : ((w.setCell ⟨g, 0, none⟩ a1).setCell ⟨g, 1, none⟩ b1).heap[g]? = some (.cells #[a1, b1] t (0, 0)) := by
  simpa using blk_set (blk_set h 0 a1) 1 b1
theorem below2 {w0 w : World} {g : Nat} (hb : Below w0.heap.size w0 w) (hg : w0.heap.size ≤ g) (a1 b1 : Value) : Below w0.heap.size w0 ((w.setCell ⟨g, 0, none⟩ a1).setCell ⟨g, 1, none⟩ b1) := below_set (below_set hb hg) hg

set_option maxHeartbeats 4000000 in
theorem edges_c (gb : Nat) (B : List S70) (w : World) (hM : MemB w gb B) (hl : B.length ≤ 1099511627776) (hs : ∀ u, (eds B u).length ≤ 1099511627776) : Calls Try.prog 22 #[.pointer (some ⟨gb, 0, none⟩)] w (TellsB (EOk B) w) := by
  have HM := Lib.hid hM
  have hu70 := Try.underlying70
  have hu37 := Try.underlying37
  clear hM
  by_cases k1 : 400 < (B.length : Int)
  · have HN : Hid (¬ EOk B) := Lib.hid (fun h => by have := h.1; omega)
    have d1 : decide (400 < (B.length : Int)) = true := decide_eq_true k1
    clear k1
    go_enter Try.func22, Try.ntmps22
    go_wp2_with ((with_reducible refine gate_dst (N := 1) rfl ?_); refine box_event ?hg (N := 1) ?hd (cs := #[.pointer (some ⟨gb, 0, none⟩)]) (t := 80) ?hr ?_; (case hd => rfl); (case hg => rfl); (case hr => first | (go_simp; done) | (go_simp; rfl)); intro gp hg w6 hbox hb; have HB := Lib.hid hb; have z0 := (blk_cell hbox 0).trans rfl; obtain ⟨A, c, y4, _⟩ := HM.out.below hb; clear hg hbox hb HM)
    go_ret
    exact ⟨false, rfl, ⟨(fun h => by cases h), fun h => absurd h HN.out⟩, HB.out⟩
  have k1' := Int.not_lt.1 k1
  have d1 : decide (400 < (B.length : Int)) = false := decide_eq_false k1
  clear k1
  go_enter Try.func22, Try.ntmps22
  go_wp2_with ((with_reducible refine gate_dst (N := 1) rfl ?_); refine box_event ?hg (N := 1) ?hd (cs := #[.pointer (some ⟨gb, 0, none⟩)]) (t := 80) ?hr ?_; (case hd => rfl); (case hg => rfl); (case hr => first | (go_simp; done) | (go_simp; rfl)); intro gp hg w6 hbox hb; have HB := Lib.hid hb; have z0 := (blk_cell hbox 0).trans rfl; have HP : Hid (MemP w6 gp gb B) := Lib.hid ⟨z0, HM.out.below hb⟩; obtain ⟨A, c, y4, hC⟩ := HM.out.below hb; have HC := Lib.hid hC; clear hg hC hbox hb HM)
  clear z0 y4 d1
  go_loopw [4, 16] (fun v4 v16 wr => ∃ i : Nat, v16 = .int .i64 i ∧ i ≤ B.length ∧ Hid (∀ j : Nat, j < i → (eds B j).any (fun s => bad B.length s.f0) = false) ∧ Hid (Below w6.heap.size w6 wr)) (fun _ v16 _ => (B.length - intOf v16).toNat)
  case atStart => exact ⟨0, rfl, by omega, Lib.hid (fun j hj => by omega), Lib.hid (Below.refl _ _)⟩
  case round =>
    obtain ⟨i, rfl, hi, HF, HR⟩ := hrel
    by_cases hlt : i < B.length
    · have p0 : (0 : Int) ≤ (i : Int) := by omega
      have q0 : (i : Int) < (B.length : Int) := by omega
      obtain ⟨ad, A0, c0, A1, c1, A3, c3, A4, c4, e1, x0, x1, x2, x3, x4, _, _, _, _, _, _, _, g4⟩ := at_T70 (Kd.C_below HC.out HR.out) i p0 q0
      subst e1
      rw [Int.toNat_natCast] at x0 x1 x2 x3 x4
      rw [rd70] at x4 g4
      have HG4 := Lib.hid g4
      clear g4
      go_upto_region 6 with (first | ((with_reducible refine gate_dst (N := 4) rfl ?_); refine box_event ?hg (N := 4) ?hd (cs := #[.slice none 0 0, .slice none 0 0, .int .i64 0, .slice none 0 0, .slice none 0 0]) (t := 70) ?hr ?_; (case hd => rfl); (case hg => rfl); (case hr => first | (go_simp; done) | (go_simp; rfl)); intro g1 hg w7 hbox hb; have hg1 := Nat.le_of_eq hg.symm; clear hg; replace x0 := pw_cell_below hb x0; replace x1 := pw_cell_below hb x1; replace x2 := pw_cell_below hb x2; replace x3 := pw_cell_below hb x3; replace x4 := pw_cell_below hb x4; have z0 := (blk_cell hbox 0).trans rfl; have z1 := (blk_cell hbox 1).trans rfl; have z2 := (blk_cell hbox 2).trans rfl; have z3 := (blk_cell hbox 3).trans rfl; have z4 := (blk_cell hbox 4).trans rfl; have f0 := blk_frozen hbox 0; have f1 := blk_frozen hbox 1; have f2 := blk_frozen hbox 2; have f3 := blk_frozen hbox 3; have f4 := blk_frozen hbox 4; have HB6 := Lib.hid hb; have HBX := Lib.hid hbox; have HG1 := Lib.hid hg1; clear hbox hb hg1))
      clear x0 x1 x2 x3 x4 z0 z1 z2 z3 z4 f0 f1 f2 f3 f4
      have HBr := Lib.hid (below5 HB6.out HG1.out (.slice A0 (rd_T70 B i).f0.length c0) (.slice A1 (rd_T70 B i).f1.length c1) (.int .i64 (rd_T70 B i).f2) (.slice A3 (rd_T70 B i).f3.length c3) (.slice A4 (eds B i).length c4))
      have HB1 := Lib.hid (set5 HBX.out (.slice A0 (rd_T70 B i).f0.length c0) (.slice A1 (rd_T70 B i).f1.length c1) (.int .i64 (rd_T70 B i).f2) (.slice A3 (rd_T70 B i).f3.length c3) (.slice A4 (eds B i).length c4))
      generalize (((((w7.setCell ⟨g1, 0, none⟩ (.slice A0 (rd_T70 B i).f0.length c0)).setCell ⟨g1, 1, none⟩ (.slice A1 (rd_T70 B i).f1.length c1)).setCell ⟨g1, 2, none⟩ (.int .i64 (rd_T70 B i).f2)).setCell ⟨g1, 3, none⟩ (.slice A3 (rd_T70 B i).f3.length c3)).setCell ⟨g1, 4, none⟩ (.slice A4 (eds B i).length c4)) = w8 at HBr HB1 ⊢
      clear HB6 HBX HG1
      have z4 := (blk_cell HB1.out 4).trans rfl
      have HR8 := Lib.hid (below_step HR.out HBr.out HR.out.size)
      have HG8 := Lib.hid (Kd.C_below HG4.out HBr.out)
      clear HG4 HBr HB1
      have HS := Lib.hid (hs i)
      go_wp2_with fail
      refine (contains gp gb B A4 c4 (eds B i) _ (HP.out.below HR8.out) hl HS.out HG8.out).mono ?_
      rintro e w9 ⟨rfl, hb⟩
      have HR9 := Lib.hid (below_step HR8.out hb HR8.out.size)
      clear hb z4 HG8 HR8
      cases h5 : (eds B i).any (fun s => bad B.length s.f0)
      · have HF2 : Hid (∀ j : Nat, j < i + 1 → (eds B j).any (fun s => bad B.length s.f0) = false) := Lib.hid (fun j hj => by
          by_cases e : j = i
          · subst e; exact h5
          · exact HF.out j (by omega))
        clear h5
        go_wp2
        go_roundw
        case rel => exact ⟨i + 1, by go_num, by omega, HF2, HR9⟩
        case measure => simp [intOf]; omega
      · have HN : Hid (¬ EOk B) := Lib.hid (fun h => by have := h.2 i hlt; rw [h5] at this; cases this)
        clear h5
        go_wp2
        go_ret
        exact ⟨false, rfl, ⟨(fun h => by cases h), fun h => absurd h HN.out⟩, below_step HB.out HR9.out HB.out.size⟩
    · have HE : Hid (EOk B) := Lib.hid ⟨by omega, fun u hu => HF.out u (by omega)⟩
      go_wp2
      go_ret
      exact ⟨true, rfl, ⟨fun _ => HE.out, fun _ => rfl⟩, below_step HB.out HR.out HB.out.size⟩
