/- The contract of (*impl.imageReader).code. -/
import Derived.Test.YtkfeoilnhpfknaaRdcFnExactImageRead
import Derived.Deep.RegionHeldLaw
import Derived.Deep.DrawnRows
import Derived.Laws.Rows
namespace Go.Proofs.Ytkfeoilnhpfknaa.ImFnExactImageRead
open Go.RowKit Go.Proofs.Ytkfeoilnhpfknaa.QFnExactImageRead Go.Proofs.YtkfeoilnhpfknaaW.PrintWords Go.Proofs.YtkfeoilnhpfknaaW.PrintLast
attribute [local go_sem ↓] Go.wp_at_zero Go.wp_at_succ
set_option linter.unusedSimpArgs false
set_option linter.unusedVariables false

/-- The cell of a row of whole numbers. -/
theorem at_R {w : World} {e base : Nat} {ok : Nat → Prop} {A : Option Addr} {n c : Nat} {xs : List Int} (h : Kd.R (Kd.int .i64) e w base ok (.slice A n c) xs) (i : Nat) (hi : i < xs.length) : ∃ ad, A = some ad ∧ w.cell? (ad.add i) = some (.int .i64 (xs.getD i 0)) := by
  obtain ⟨ad, e1, h1⟩ := Kd.at_int (Kd.R_reads' h).2.2 (i : Int) (by omega) (by omega)
  rw [Int.toNat_natCast] at h1
  refine ⟨ad, e1, ?_⟩
  have : rd xs (i : Int) = xs.getD i 0 := by unfold rd; rw [Int.toNat_natCast]
  rw [← this]; exact h1
theorem alloc_top (w : World) (o : Obj) : (w.alloc o).drew.heap[w.heap.size]? = some o := by
  show (w.heap.push o)[w.heap.size]? = some o
  exact Array.getElem?_push_size
theorem KeepR.new {gr g j : Nat} {w w1 : World} {u : Value} (h : KeepR gr w w1) (hg : w.heap.size ≤ g) : KeepR gr w (w1.setCell ⟨g, j, none⟩ u) := h.grow ((Below.refl _ _).setCell hg _)
theorem Rdr.new {w0 w : World} {gr g j : Nat} {u : Value} {rest : List Int} {bad : Bool} (h : Rdr w0 w gr rest bad) (hg : w0.heap.size ≤ g) (hn : g ≠ gr) : Rdr w0 (w.setCell ⟨g, j, none⟩ u) gr rest bad := h.grow (B := w0.heap.size) ((Below.refl _ _).setCell hg _) (Nat.le_refl _) (Below.heap_setCell w ⟨g, j, none⟩ u gr (Ne.symm hn))
theorem info68 : (Try.prog.info? 68).map (fun i => (i.zero, i.size, i.bytes)) = some (some (.agg #[.int .i64 0, .int .i64 0, .int .i64 0, .int .i64 0, .int .i64 0]), 5, 40) := by kernel_rfl
theorem info72 : (Try.prog.info? 72).map (fun i => (i.zero, i.size, i.bytes)) = some (some (.agg #[.int .i64 0, .slice none 0 0]), 2, 32) := by kernel_rfl
/-- Two ways that end alike are gone on with once. -/
theorem once {P Q : Prop} (h : Hid P → Q) (p : P) : Q := h (Lib.hid p)
def Code (w0 : World) (gr : Nat) (s : RSt) (w : World) (e : Ending) (w' : World) : Prop := ∃ v2 v3, e = .returned (.agg #[.int .i64 (vCode s).f0, .int .i64 (vCode s).f1, v2, v3]) ∧ Kd.R k68 68 w' w.heap.size (fun k => k ≠ gr) v2 (vCode s).f2 ∧ Kd.S k72 72 w' w.heap.size (fun k => k ≠ gr) v3 (vCode s).f3 ∧ Rdr w0 w' gr (rCode s).1 (rCode s).2 ∧ KeepR gr w w'
theorem hCode_len (s : RSt) : 4 ≤ (hCode s).length := by unfold hCode; rw [List.length_append]; simp
theorem R_new {α : Type} {d : Kd α} {e base gr : Nat} {ok : Nat → Prop} {w : World} {v : Value} {xs : List α} (h : Kd.R d e w base ok v xs) (hg : gr < base) : Kd.R d e w base (fun k => k ≠ gr) v xs :=
  Kd.R_mono (Kd.R_bound h) fun k hk => by have := hk.2.1; omega

/-- Rows whose inner rows are apart, beside the reader. -/
theorem Kd.S_keepR {α : Type} {d : Kd α} {e gr base : Nat} {ok : Nat → Prop} {w w1 : World} {v : Value} {xs : List α} (h : Kd.S d e w base ok v xs) (hk : KeepR gr w w1) (ho : ∀ k, ok k → k ≠ gr) : Kd.S d e w1 base ok v xs :=
  Kd.S_step h fun k hk' hlt => hk.2 k hlt (ho k hk')
/-- What code holds while it reads. -/
def CSt (w0 : World) (gr : Nat) (w : World) (g2 g4 : Nat) (hd : List Int) (vh : Value) (a0 a1 : Int) (W : World) (s : RSt) (v2 v3 : Value) (xs : List S68) (ys : List S72) : Prop :=
  Kd.R (Kd.int .i64) 3 W w.heap.size (fun k => k ≠ gr) vh hd ∧ Rdr w0 W gr s.1 s.2 ∧ KeepR gr w W ∧ W.heap[g2]? = some (.cells #[.int .i64 0, .int .i64 0, .slice none 0 0, .slice none 0 0] 53 (0, 0)) ∧ W.heap[g4]? = some (.cells #[.int .i64 a0, .int .i64 a1, v2, v3] 53 (0, 0)) ∧ Kd.R k68 68 W w.heap.size (fun k => k ≠ gr) v2 xs ∧ Kd.S k72 72 W w.heap.size (fun k => k ≠ gr) v3 ys
theorem Rdr.ne {w0 W : World} {gr g t : Nat} {rest : List Int} {bad : Bool} {cs : Array Value} (h : Rdr w0 W gr rest bad) (hx : W.heap[g]? = some (.cells cs t (0, 0))) (ht : t ≠ 74) : g ≠ gr := by
  obtain ⟨A, c, h1⟩ := h.has
  intro e
  subst e
  rw [h1] at hx
  injection hx with hx
  injection hx with _ hx
  exact ht hx.symm
theorem CSt.keep {w0 w W W1 : World} {gr g2 g4 : Nat} {hd : List Int} {vh v2 v3 : Value} {a0 a1 : Int} {s s1 : RSt} {xs : List S68} {ys : List S72} (h : CSt w0 gr w g2 g4 hd vh a0 a1 W s v2 v3 xs ys) (hk : KeepR gr W W1) (hr : Rdr w0 W1 gr s1.1 s1.2) : CSt w0 gr w g2 g4 hd vh a0 a1 W1 s1 v2 v3 xs ys := by
  obtain ⟨h1, h2, h3, h4, h5, h6, h7⟩ := h
  exact ⟨Kd.R_keepR h1 hk (fun _ h => h), hr, h3.trans hk, (hk.2 _ (blk_lt h4) (h2.ne h4 (by decide))).trans h4, (hk.2 _ (blk_lt h5) (h2.ne h5 (by decide))).trans h5, Kd.R_keepR h6 hk (fun _ h => h), Kd.S_keepR h7 hk (fun _ h => h)⟩
theorem CSt.below {w0 w W W1 : World} {gr g2 g4 : Nat} {hd : List Int} {vh v2 v3 : Value} {a0 a1 : Int} {s : RSt} {xs : List S68} {ys : List S72} (h : CSt w0 gr w g2 g4 hd vh a0 a1 W s v2 v3 xs ys) (hb : Below W.heap.size W W1) : CSt w0 gr w g2 g4 hd vh a0 a1 W1 s v2 v3 xs ys :=
  h.keep (KeepR.of_below hb) (h.2.1.below hb)
/-- Behind a row's growth and a store into the code. -/
theorem CSt.grown {w0 w W W1 : World} {gr g2 g4 : Nat} {hd : List Int} {vh v2 v3 u : Value} {a0 a1 : Int} {s : RSt} {xs : List S68} {ys : List S72} (h : CSt w0 gr w g2 g4 hd vh a0 a1 W s v2 v3 xs ys) (h0 : w0.heap.size ≤ w.heap.size) (hgr : gr < w.heap.size) (hg4 : w.heap.size ≤ g4) (hg2 : g2 ≠ g4) (hb : Below w.heap.size W W1) {row : Option Nat} (hg : W.grownBy W1 row) (e2 : some g2 ≠ row) (e4 : some g4 ≠ row) (r1 : Kd.R (Kd.int .i64) 3 W1 w.heap.size (fun k => k ≠ gr) vh hd) (j : Nat) : Kd.R (Kd.int .i64) 3 (W1.setCell ⟨g4, j, none⟩ u) w.heap.size (fun k => k ≠ gr) vh hd ∧ Rdr w0 (W1.setCell ⟨g4, j, none⟩ u) gr s.1 s.2 ∧ KeepR gr w (W1.setCell ⟨g4, j, none⟩ u) ∧ (W1.setCell ⟨g4, j, none⟩ u).heap[g2]? = some (.cells #[.int .i64 0, .int .i64 0, .slice none 0 0, .slice none 0 0] 53 (0, 0)) ∧ W1.heap[g4]? = some (.cells #[.int .i64 a0, .int .i64 a1, v2, v3] 53 (0, 0)) := by
  obtain ⟨h1, h2, h3, h4, h5, h6, h7⟩ := h
  have b4 := (hg.block g4 (blk_lt h5) e4).trans h5
  have hs : Below w.heap.size W1 (W1.setCell ⟨g4, j, none⟩ u) := (Below.refl _ _).setCell hg4 _
  have hx1 : W1.heap[gr]? = W.heap[gr]? := hb.block gr hgr
  exact ⟨Kd.R_set r1 b4 (by decide) j u, (h2.grow hb h0 hx1).grow hs h0 (hs.block gr hgr), (h3.grow hb).grow hs, (Below.heap_setCell W1 ⟨g4, j, none⟩ u g2 hg2).trans ((hg.block g2 (blk_lt h4) e2).trans h4), b4⟩
/-- The row of instructions has grown, and the code holds the new one. -/
theorem CSt.ins {w0 w W W1 : World} {gr g2 g4 : Nat} {hd : List Int} {vh v2 v3 v2' : Value} {a0 a1 : Int} {s : RSt} {xs xs' : List S68} {ys : List S72} (h : CSt w0 gr w g2 g4 hd vh a0 a1 W s v2 v3 xs ys) (h0 : w0.heap.size ≤ w.heap.size) (hgr : gr < w.heap.size) (hg4 : w.heap.size ≤ g4) (hg2 : g2 ≠ g4) (hb : Below w.heap.size W W1) (hg : W.grownBy W1 v2.ownBlock) (hr : Kd.R k68 68 W1 w.heap.size (fun k => k ≠ gr) v2' xs') : CSt w0 gr w g2 g4 hd vh a0 a1 (W1.setCell ⟨g4, 2, none⟩ v2') s v2' v3 xs' ys := by
  have hh := h
  obtain ⟨h1, h2, h3, h4, h5, h6, h7⟩ := hh
  obtain ⟨q1, q2, q3, q4, q5⟩ := h.grown (u := v2') h0 hgr hg4 hg2 hb hg (Kd.R_ne h6 h4 (by decide)) (Kd.R_ne h6 h5 (by decide)) (Kd.R_over' h1 (Kd.R_typed h6) (by decide) hg) 2
  exact ⟨q1, q2, q3, q4, by simpa using blk_set q5 2 v2', Kd.R_set hr q5 (by decide) 2 v2', Kd.S_set (Kd.S_over' h7 (Kd.R_typed h6) (by decide) hg) q5 (by decide) 2 v2'⟩
/-- The row of maps has grown, and the code holds the new one. -/
theorem CSt.map {w0 w W W1 : World} {gr g2 g4 : Nat} {hd : List Int} {vh v2 v3 v3' : Value} {a0 a1 : Int} {s : RSt} {xs : List S68} {ys ys' : List S72} (h : CSt w0 gr w g2 g4 hd vh a0 a1 W s v2 v3 xs ys) (h0 : w0.heap.size ≤ w.heap.size) (hgr : gr < w.heap.size) (hg4 : w.heap.size ≤ g4) (hg2 : g2 ≠ g4) (hb : Below w.heap.size W W1) (hg : W.grownBy W1 v3.ownBlock) (hr : Kd.S k72 72 W1 w.heap.size (fun k => k ≠ gr) v3' ys') : CSt w0 gr w g2 g4 hd vh a0 a1 (W1.setCell ⟨g4, 3, none⟩ v3') s v2 v3' xs ys' := by
  have hh := h
  obtain ⟨h1, h2, h3, h4, h5, h6, h7⟩ := hh
  obtain ⟨q1, q2, q3, q4, q5⟩ := h.grown (u := v3') h0 hgr hg4 hg2 hb hg (Kd.S_ne h7 h4 (by decide)) (Kd.S_ne h7 h5 (by decide)) (Kd.R_over' h1 (Kd.S_typed h7) (by decide) hg) 3
  exact ⟨q1, q2, q3, q4, by simpa using blk_set q5 3 v3', Kd.R_set (Kd.R_over' h6 (Kd.S_typed h7) (by decide) hg) q5 (by decide) 3 v3', Kd.S_set hr q5 (by decide) 3 v3'⟩

/-- What is handed back. -/
theorem CSt.fin {w0 w W : World} {gr g2 g4 : Nat} {hd : List Int} {vh v2 v3 : Value} {a0 a1 : Int} {s : RSt} {xs : List S68} {ys : List S72} (h : CSt w0 gr w g2 g4 hd vh a0 a1 W s v2 v3 xs ys) (h0 : w0.heap.size ≤ w.heap.size) (hgr : gr < w.heap.size) (hg2 : w.heap.size ≤ g2) {u0 u1 u2 u3 : Value} : Kd.R k68 68 ((((W.setCell ⟨g2, 0, none⟩ u0).setCell ⟨g2, 1, none⟩ u1).setCell ⟨g2, 2, none⟩ u2).setCell ⟨g2, 3, none⟩ u3) w.heap.size (fun k => k ≠ gr) v2 xs ∧ Kd.S k72 72 ((((W.setCell ⟨g2, 0, none⟩ u0).setCell ⟨g2, 1, none⟩ u1).setCell ⟨g2, 2, none⟩ u2).setCell ⟨g2, 3, none⟩ u3) w.heap.size (fun k => k ≠ gr) v3 ys ∧ Rdr w0 ((((W.setCell ⟨g2, 0, none⟩ u0).setCell ⟨g2, 1, none⟩ u1).setCell ⟨g2, 2, none⟩ u2).setCell ⟨g2, 3, none⟩ u3) gr s.1 s.2 ∧ KeepR gr w ((((W.setCell ⟨g2, 0, none⟩ u0).setCell ⟨g2, 1, none⟩ u1).setCell ⟨g2, 2, none⟩ u2).setCell ⟨g2, 3, none⟩ u3) := by
  obtain ⟨h1, h2, h3, h4, h5, h6, h7⟩ := h
  have b1 := blk_set h4 0 u0
  have b2 := blk_set b1 1 u1
  have b3 := blk_set b2 2 u2
  have n2 : g2 ≠ gr := h2.ne h4 (by decide)
  have s2 : w0.heap.size ≤ g2 := Nat.le_trans h0 hg2
  exact ⟨Kd.R_set (Kd.R_set (Kd.R_set (Kd.R_set h6 h4 (by decide) 0 u0) b1 (by decide) 1 u1) b2 (by decide) 2 u2) b3 (by decide) 3 u3,
    Kd.S_set (Kd.S_set (Kd.S_set (Kd.S_set h7 h4 (by decide) 0 u0) b1 (by decide) 1 u1) b2 (by decide) 2 u2) b3 (by decide) 3 u3,
    (((h2.new s2 n2).new s2 n2).new s2 n2).new s2 n2, (((h3.new hg2).new hg2).new hg2).new hg2⟩

/-- What stands behind a call that reads, and what the call made, are apart. -/
theorem S_split {α : Type} {d : Kd α} {e base gr : Nat} {w w1 : World} {v : Value} {xs : List α} (h : Kd.S d e w base (fun k => k ≠ gr) v xs) (hk : KeepR gr w w1) : Kd.S d e w1 base (fun k => k ≠ gr ∧ ¬ (w.heap.size ≤ k ∧ k ≠ gr)) v xs :=
  Kd.S_keepR (Kd.S_mono (Kd.S_bound h) (fun k hk => ⟨hk.1, fun h => by have := hk.2.2.1; omega⟩)) hk (fun k h => h.1)
theorem R_fresh {α : Type} {d : Kd α} {e base gr : Nat} {w w1 : World} {v : Value} {xs : List α} (h : Kd.R d e w1 w.heap.size (fun k => k ≠ gr) v xs) (hb : base ≤ w.heap.size) : Kd.R d e w1 base (fun k => w.heap.size ≤ k ∧ k ≠ gr) v xs :=
  Kd.R_lower (Kd.R_mono (Kd.R_bound h) (fun k hk => ⟨hk.2.1, hk.1⟩)) hb
/-- Two cells of a row of whole numbers. -/
def Two (a : Addr) (p q : Int) (w : World) : Prop := w.cell? a = some (.int .i64 p) ∧ w.cell? ⟨a.block, a.off + 1, none⟩ = some (.int .i64 q)
theorem Two.block {a : Addr} {p q : Int} {w w1 : World} (h : Two a p q w) (hb : w1.heap[a.block]? = w.heap[a.block]?) : Two a p q w1 := ⟨(World.cell?_of_block hb).trans h.1, (World.cell?_of_block (a := ⟨a.block, a.off + 1, none⟩) hb).trans h.2⟩
theorem two_alloc {w : World} (o : Obj) {b : Nat} (hb : b < w.heap.size) : (w.alloc o).heap[b]? = w.heap[b]? := (below_alloc (Below.refl _ _) o).block b hb
theorem hMap_len (s : RSt) : 2 ≤ (hMap s).length := by unfold hMap; rw [List.length_append]; simp

set_option maxHeartbeats 8000000 in
set_option maxRecDepth 100000 in
theorem code_r (w0 : World) (gr : Nat) (s : RSt) (w : World) (hr : Rdr w0 w gr s.1 s.2) (hl : s.1.length ≤ 1099511627) :
    Calls Try.prog 41 #[.pointer (some ⟨gr, 0, none⟩)] w (Code w0 gr s w) := by
  have HRd := Lib.hid hr
  have HRz := Lib.hid (show w0.heap.size ≤ w.heap.size from hr.size)
  have HGl := Lib.hid (show gr < w.heap.size from by obtain ⟨_, _, h⟩ := hr.has; exact blk_lt h)
  clear hr
  obtain ⟨y1, hy1⟩ : ∃ y1 : List Int, y1 = [0, 0, 0, 0] := ⟨_, rfl⟩
  have Ny := Lib.hid hy1
  clear hy1
  go_enter Try.func41, Try.ntmps41
  go_upto_region 2 with (first
    | ((with_reducible refine gate_dst (N := 2) rfl ?_); refine box_event ?hg (N := 2) ?hd (cs := #[.int .i64 0, .int .i64 0, .slice none 0 0, .slice none 0 0]) (t := 53) ?hr ?_; (case hd => rfl); (case hg => rfl); (case hr => first | (go_simp; done) | (go_simp; rfl)); intro g2 hg w2 hbox hb; have HG2 := Lib.hid hg; have HX2 := Lib.hid hbox; have HK2 := Lib.hid (KeepR.of_below (gr := gr) hb); have HR2 := Lib.hid (HRd.out.below hb); clear hbox hb hg)
    | (go_at_call 39; refine (ints_c w0 gr s.1 s.2 4 w2 HR2.out (by omega)).mono ?_; rintro e w3 ⟨v, rfl, hR, hr, hk⟩; obtain ⟨Av, cv, rfl⟩ := Kd.R_slice hR; have HO3 := Lib.hid (Kd.R_lower hR HK2.out.1); have HR3 := Lib.hid hr; have HK3 := Lib.hid (HK2.out.trans hk); have HX3 := Lib.hid ((hk.2 g2 (blk_lt HX2.out) (by have := HG2.out; have := HGl.out; omega)).trans HX2.out); clear hR hr hk)
    | ((with_reducible refine gate_dst (N := 11) rfl ?_); refine Kd.R_lit (Kd.int .i64) _ 3 ?hg (N := 11) ?hd (xs := [0, 0, 0, 0]) (inner := [.int .i64 0, .int .i64 0, .int .i64 0, .int .i64 0]) (ok := fun _ => True) (okp := fun _ => True) ?hr ?hp (fun _ hk => hk) trivial (Below.refl _ _) (Nat.le_refl _) (by simp) ?_; (case hd => rfl); (case hg => rfl); (case hr => first | (go_simp; done) | (go_simp; rfl)); (case hp => exact (Reps.one (show Kd.M (Kd.int .i64) _ _ _ (0 : Int) [.int .i64 0] from rfl) (Reps.one (show Kd.M (Kd.int .i64) _ _ _ (0 : Int) [.int .i64 0] from rfl) (Reps.one (show Kd.M (Kd.int .i64) _ _ _ (0 : Int) [.int .i64 0] from rfl) (Reps.one (show Kd.M (Kd.int .i64) _ _ _ (0 : Int) [.int .i64 0] from rfl) (Reps.none _ _)))))); intro vL w10 hoL hb hg_ hnew_; clear hg_ hnew_; rw [← Ny.out] at hoL; have HOL := Lib.hid hoL; have HO4 := Lib.hid (Kd.R_below HO3.out hb); have HR4 := Lib.hid (HR3.out.below hb); have HK4 := Lib.hid (HK3.out.trans (KeepR.of_below hb)); have HX4 := Lib.hid (blk_below HX3.out hb); clear hb hoL; obtain ⟨Ao7, co7, eo7⟩ := Kd.R_slice HOL.out; subst eo7)
    | ((with_reducible refine gate_builtin (b := .append) (xs := #[.tmp 10, .tmp 11]) rfl ?_); at_builtin; refine Kd.R_append_rows (Kd.int .i64) (w0 := w10) w.heap.size rfl (.tmp 10) (.tmp 11) 70 3 (.int .i64 0) 8 rfl Try.underlying70 info3 rfl (by decide) (by omega) _ (vInts 4 s) y1 _ _ _ (fun k => k ≠ gr) (fun _ => False) rfl rfl ?aO ?aR (fun _ _ h => h) (fun _ h => h.elim) ?aF ?aB ?aS ?aL ?_; (case aO => exact HO4.out); (case aR => exact (Kd.R_reads' HOL.out).2.2); (case aB => exact Below.refl _ _); (case aF => exact (fun k hk => by have := HGl.out; have := HK4.out.1; omega)); (case aS => exact HK4.out.1); (case aL => have := intsV_len 4 s.1 s.2; have := congrArg List.length Ny.out; rw [List.length_cons, List.length_cons, List.length_cons, List.length_singleton] at this; unfold vInts; omega); intro v155 w11 ho hb hg hat; rw [Ny.out] at ho; have HO5 := Lib.hid (show Kd.R (Kd.int .i64) 3 w11 w.heap.size (fun k => k ≠ gr) v155 (hCode s) from ho); have HR5 := Lib.hid (HR4.out.grow hb (by have := HRz.out; omega) (hg.block gr (by have := HGl.out; have := HK4.out.1; omega) (fun e => HO4.out.1 gr e.symm rfl))); have HK5 := Lib.hid (HK4.out.grow hb); have HX5 := Lib.hid ((hg.block g2 (blk_lt HX4.out) (Kd.R_ne HO4.out HX4.out (by decide))).trans HX4.out); clear ho hb hg hat))
  clear HX2 HK2 HR2 HO3 HR3 HK3 HX3 HO4 HR4 HK4 HX4 HOL HRd
  obtain ⟨hd, hhd⟩ : ∃ hd, hd = hCode s := ⟨_, rfl⟩
  have Nh := Lib.hid hhd
  rw [← hhd] at HO5
  have hh4 : 4 ≤ hd.length := by rw [hhd]; exact hCode_len s
  clear hhd
  obtain ⟨Ah, ch, e5⟩ := Kd.R_slice HO5.out
  subst e5
  obtain ⟨ah, e0, c0⟩ := at_R HO5.out 0 (by omega)
  subst e0
  obtain ⟨ah', e1, c1⟩ := at_R HO5.out 1 (by omega)
  obtain rfl : ah = ah' := Option.some.inj e1
  rw [show ah.add 0 = ah from by unfold Addr.add; rfl] at c0
  replace c1 : w11.cell? ⟨ah.block, ah.off + 1, none⟩ = some (.int .i64 (hd.getD 1 0)) := c1
  obtain ⟨a0, ha0⟩ : ∃ a0, a0 = hd.getD 0 0 := ⟨_, rfl⟩
  obtain ⟨a1, ha1⟩ : ∃ a1, a1 = hd.getD 1 0 := ⟨_, rfl⟩
  rw [← ha0] at c0
  rw [← ha1] at c1
  have N0 := Lib.hid ha0
  have N1 := Lib.hid ha1
  clear ha0 ha1 e1
  obtain ⟨L, hL⟩ : ∃ L, L = hd.length := ⟨_, rfl⟩
  rw [← hL] at HO5 hh4 ⊢
  have b0 : (0 : Int) < (L : Int) := by omega
  have b1 : (1 : Int) < (L : Int) := by omega
  have b2 : 0 < L := by omega
  have b3 : 1 < L := by omega
  have NL := Lib.hid hL
  clear hL
  refine' once (fun hk => ?walk) ?rest
  case walk =>
    go_region_held_law (fun w' => w'.cell? ah = some (.int .i64 a0) ∧ w'.cell? ⟨ah.block, ah.off + 1, none⟩ = some (.int .i64 a1)) (go_keep) (fail)
    all_goals exact hk.out
  have HY6 : Hid ((w11.alloc (.cells #[.int .i64 a0, .int .i64 a1, .slice none 0 0, .slice none 0 0] 53)).drew.heap[w11.heap.size]? = some (.cells #[.int .i64 a0, .int .i64 a1, .slice none 0 0, .slice none 0 0] 53 (0, 0))) := Lib.hid (alloc_top _ _)
  have HB6 : Hid (Below w11.heap.size w11 (w11.alloc (.cells #[.int .i64 a0, .int .i64 a1, .slice none 0 0, .slice none 0 0] 53)).drew) := Lib.hid (below_drew (below_alloc (Below.refl _ _) _))
  have HG4 : Hid (w.heap.size ≤ w11.heap.size ∧ g2 ≠ w11.heap.size) := Lib.hid ⟨HK5.out.1, Nat.ne_of_lt (blk_lt HX5.out)⟩
  obtain ⟨g4, hg4⟩ : ∃ g4, g4 = w11.heap.size := ⟨_, rfl⟩
  generalize (w11.alloc (.cells #[.int .i64 a0, .int .i64 a1, .slice none 0 0, .slice none 0 0] 53)).drew = w6 at HY6 HB6 ⊢
  have HC6 : Hid (CSt w0 gr w g2 w11.heap.size hd (.slice (some ah) L ch) a0 a1 w6 (rInts 4 s) (.slice none 0 0) (.slice none 0 0) [] []) := Lib.hid
    ⟨Kd.R_below HO5.out HB6.out, HR5.out.below HB6.out, HK5.out.trans (KeepR.of_below HB6.out), blk_below HX5.out HB6.out, HY6.out, Kd.R_nil _ _ _ _ _, Kd.S_nil _ _ _ _ _⟩
  rw [← hg4] at HC6 HG4 ⊢
  clear hg4 HY6 HB6 HX5 HR5 HK5 HO5 c0 c1 b0
  obtain ⟨a2, ha2⟩ : ∃ a2, a2 = hd.getD 2 0 := ⟨_, rfl⟩
  have N2 := Lib.hid ha2
  clear ha2
  go_wp2
  go_loopw [5] (fun v5 wr => ∃ (i : Nat) (xs : List S68) (st : RSt) (v2 : Value), v5 = .int .i64 i ∧ Hid (Man vIns rIns a2.toNat (rInts 4 s) i xs st) ∧ Hid (CSt w0 gr w g2 g4 hd (.slice (some ah) L ch) a0 a1 wr st v2 (.slice none 0 0) xs [])) (fun v5 _ => (a2 - intOf v5).toNat)
  case atStart => exact ⟨0, [], rInts 4 s, _, rfl, Lib.hid (Man.start _ _ _ _), HC6⟩
  case round =>
    clear HC6
    obtain ⟨i, xs, st, v2, rfl, HM, HC⟩ := hrel
    obtain ⟨ah', e2, c2⟩ := at_R HC.out.1 2 (by have := NL.out; omega)
    obtain rfl : ah = ah' := Option.some.inj e2
    replace c2 : wr.cell? ⟨ah.block, ah.off + 2, none⟩ = some (.int .i64 (hd.getD 2 0)) := c2
    rw [← N2.out] at c2
    clear e2
    have b4 : (2 : Int) < (L : Int) := by omega
    have b5 : 2 < L := by omega
    obtain ⟨A, c, hb⟩ := HC.out.2.1.has
    have z1 : wr.cell? ⟨gr, 1, none⟩ = some (.bool st.2) := (blk_cell hb 1).trans rfl
    clear hb
    by_cases hgo : (i : Int) < a2 ∧ st.2 = false
    · obtain ⟨hlt, hbd⟩ := hgo
      have d1 : decide ((i : Int) < a2) = true := decide_eq_true hlt
      obtain ⟨rs, bd⟩ := st
      replace hbd : bd = false := hbd
      subst hbd
      replace z1 : wr.cell? ⟨gr, 1, none⟩ = some (.bool false) := z1
      obtain ⟨Al, cl, rfl⟩ := Kd.R_slice HC.out.2.2.2.2.2.1
      have hs0 : rs.length ≤ s.1.length := Nat.le_trans HM.out.2.2.2.2.1 (rInts_len 4 s)
      have hl0 : (rs, false).1.length ≤ 1099511627776 := by show rs.length ≤ _; omega
      have hl1 := Nat.le_trans (rNum_len 1 (rs, false)) hl0
      have hl2 := Nat.le_trans (rNum_len 1 (rNum 1 (rs, false))) hl1
      have hl3 := Nat.le_trans (rNum_len 1 (rNum 1 (rNum 1 (rs, false)))) hl2
      have hl4 := Nat.le_trans (rNum_len 1 (rNum 1 (rNum 1 (rNum 1 (rs, false))))) hl3
      go_upto_region 7 with (first
        | (go_at_call 40; refine (number_c w0 gr (rNum 1 (rNum 1 (rNum 1 (rs, false)))).1 (rNum 1 (rNum 1 (rNum 1 (rs, false)))).2 1 w23 (by decide) HC3.out.2.1 hl3).mono ?_; rintro e w24 ⟨rfl, hr, hk⟩; have HC4 := Lib.hid (HC3.out.keep (s1 := rNum 1 (rNum 1 (rNum 1 (rNum 1 (rs, false))))) hk.keepR hr); clear hr hk)
        | (go_at_call 40; refine (number_c w0 gr (rNum 1 (rNum 1 (rs, false))).1 (rNum 1 (rNum 1 (rs, false))).2 1 w22 (by decide) HC2.out.2.1 hl2).mono ?_; rintro e w23 ⟨rfl, hr, hk⟩; have HC3 := Lib.hid (HC2.out.keep (s1 := rNum 1 (rNum 1 (rNum 1 (rs, false)))) hk.keepR hr); clear hr hk)
        | (go_at_call 40; refine (number_c w0 gr (rNum 1 (rs, false)).1 (rNum 1 (rs, false)).2 1 w21 (by decide) HC1.out.2.1 hl1).mono ?_; rintro e w22 ⟨rfl, hr, hk⟩; have HC2 := Lib.hid (HC1.out.keep (s1 := rNum 1 (rNum 1 (rs, false))) hk.keepR hr); clear hr hk)
        | (go_at_call 40; refine (number_c w0 gr (rs, false).1 (rs, false).2 1 wr (by decide) HC.out.2.1 hl0).mono ?_; rintro e w21 ⟨rfl, hr, hk⟩; have HC1 := Lib.hid (HC.out.keep (s1 := rNum 1 (rs, false)) hk.keepR hr); clear hr hk)
        | ((with_reducible refine gate_dst (N := 6) rfl ?_); refine box_event ?hg (N := 6) ?hd (cs := #[.int .i64 0, .int .i64 0, .int .i64 0, .int .i64 0, .int .i64 0]) (t := 68) ?hr ?_; (case hd => rfl); (case hg => rfl); (case hr => first | (go_simp; done) | (go_simp; rfl)); intro g6 hg w25 hbox hb; have HG6 := Lib.hid hg; have HX5 := Lib.hid hbox; have HB5 := Lib.hid hb; have z5 := (blk_cell hbox 0).trans rfl; have z6 := (blk_cell hbox 1).trans rfl; have z7 := (blk_cell hbox 2).trans rfl; have z8 := (blk_cell hbox 3).trans rfl; have z9 := (blk_cell hbox 4).trans rfl; have f5 := blk_frozen hbox 0; have f6 := blk_frozen hbox 1; have f7 := blk_frozen hbox 2; have f8 := blk_frozen hbox 3; have f9 := blk_frozen hbox 4; clear hbox hb hg))
      clear z5 z6 z7 z8 z9 f5 f6 f7 f8 f9
      generalize hW : World.setCell _ _ _ = w26
      have HX6 : Hid (w26.heap[g6]? = some (.cells #[.int .i64 (numV 1 rs), .int .i64 (numV 1 (rNum 1 (rs, false)).1), .int .i64 (numV 1 (rNum 1 (rNum 1 (rs, false))).1), .int .i64 (numV 1 (rNum 1 (rNum 1 (rNum 1 (rs, false)))).1), .int .i64 0] 68 (0, 0))) := Lib.hid (by rw [← hW]; simpa using blk_set (blk_set (blk_set (blk_set (blk_set HX5.out 0 (.int .i64 (numV 1 rs))) 1 (.int .i64 (numV 1 (rNum 1 (rs, false)).1))) 2 (.int .i64 (numV 1 (rNum 1 (rNum 1 (rs, false))).1))) 3 (.int .i64 (numV 1 (rNum 1 (rNum 1 (rNum 1 (rs, false)))).1))) 4 (.int .i64 0))
      have HK6 : Hid (KeepR gr w24 w26) := Lib.hid (by rw [← hW]; exact (((((KeepR.of_below HB5.out).new (Nat.le_of_eq HG6.out.symm)).new (Nat.le_of_eq HG6.out.symm)).new (Nat.le_of_eq HG6.out.symm)).new (Nat.le_of_eq HG6.out.symm)).new (Nat.le_of_eq HG6.out.symm))
      have HN6 : Hid (g6 ≠ gr) := Lib.hid (by have := HG6.out; have := HC4.out.2.2.1.1; have := HGl.out; omega)
      have HS6 : Hid (w0.heap.size ≤ g6) := Lib.hid (by have := HG6.out; have := HC4.out.2.2.1.1; have := HRz.out; omega)
      have HR6 : Hid (Rdr w0 w26 gr (rNum 1 (rNum 1 (rNum 1 (rNum 1 (rs, false))))).1 (rNum 1 (rNum 1 (rNum 1 (rNum 1 (rs, false))))).2) := Lib.hid (by rw [← hW]; exact (((((HC4.out.2.1.below HB5.out).new HS6.out HN6.out).new HS6.out HN6.out).new HS6.out HN6.out).new HS6.out HN6.out).new HS6.out HN6.out)
      clear hW HX5 HB5 HC1 HC2 HC3
      obtain ⟨x0, hx0⟩ : ∃ x, x = (numV 1 rs) := ⟨_, rfl⟩
      obtain ⟨x1, hx1⟩ : ∃ x, x = (numV 1 (rNum 1 (rs, false)).1) := ⟨_, rfl⟩
      obtain ⟨x2, hx2⟩ : ∃ x, x = (numV 1 (rNum 1 (rNum 1 (rs, false))).1) := ⟨_, rfl⟩
      obtain ⟨x3, hx3⟩ : ∃ x, x = (numV 1 (rNum 1 (rNum 1 (rNum 1 (rs, false)))).1) := ⟨_, rfl⟩
      obtain ⟨x4, hx4⟩ : ∃ x, x = (numV 8 (rNum 1 (rNum 1 (rNum 1 (rNum 1 (rs, false))))).1) := ⟨_, rfl⟩
      rw [← hx0, ← hx1, ← hx2, ← hx3] at HX6 ⊢
      have HV : Hid (vIns (rs, false) = ⟨x0, x1, x2, x3, x4⟩) := Lib.hid (by rw [hx0, hx1, hx2, hx3, hx4]; rfl)
      obtain ⟨z4, hz4⟩ : ∃ z : RSt, z = (rNum 1 (rNum 1 (rNum 1 (rNum 1 (rs, false))))) := ⟨_, rfl⟩
      rw [← hz4] at HR6 HC4 hl4 hx4
      have HZ4 : Hid (rIns (rs, false) = rNum 8 z4) := Lib.hid (by rw [hz4]; rfl)
      have HX4 := Lib.hid hx4
      clear hx0 hx1 hx2 hx3 hx4 hz4
      go_upto_region 8 with (go_at_call 40; refine (number_c w0 gr z4.1 z4.2 8 w26 (by decide) HR6.out hl4).mono ?_; rintro e w27 ⟨rfl, hr, hk⟩; rw [← HX4.out]; have HK7 := Lib.hid (HK6.out.trans hk.keepR); have HX7 := Lib.hid ((hk.2 g6 HN6.out).trans HX6.out); have HR7 := Lib.hid hr; clear hr hk; have z5 := (blk_cell HX7.out 4).trans rfl; have f5 := blk_frozen HX7.out 4)
      generalize hW : World.setCell _ _ _ = w28
      have HX8 : Hid (w28.heap[g6]? = some (.cells #[.int .i64 x0, .int .i64 x1, .int .i64 x2, .int .i64 x3, .int .i64 x4] 68 (0, 0))) := Lib.hid (by rw [← hW]; simpa using blk_set HX7.out 4 (.int .i64 x4))
      have HK8 : Hid (KeepR gr w24 w28) := Lib.hid (by rw [← hW]; exact HK7.out.new (Nat.le_of_eq HG6.out.symm))
      have HR8 : Hid (Rdr w0 w28 gr (rNum 8 z4).1 (rNum 8 z4).2) := Lib.hid (by rw [← hW]; exact HR7.out.new HS6.out HN6.out)
      have HC8 := Lib.hid (HC4.out.keep HK8.out HR8.out)
      clear hW HX7 HK7 HR7 z5 f5 HC4 HX6 HK6 HR6 HK8 HR8 HX4
      have z10 := (blk_cell HX8.out 0).trans rfl
      have z11 := (blk_cell HX8.out 1).trans rfl
      have z12 := (blk_cell HX8.out 2).trans rfl
      have z13 := (blk_cell HX8.out 3).trans rfl
      have z14 := (blk_cell HX8.out 4).trans rfl
      have z15 := (blk_cell HC8.out.2.2.2.2.1 2).trans rfl
      have hu68 := Try.underlying68
      have hsm : i ≤ s.1.length := Nat.le_trans (HM.out.small rfl) (rInts_len 4 s)
      have hxl := Lib.hid (show xs.length = i from HM.out.2.2.2.1)
      go_wp2_with ((with_reducible refine gate_builtin (b := .append) (xs := #[.tmp 47, .tmp 49]) rfl ?_); at_builtin; refine Kd.R_append k68 (w0 := w28) w.heap.size rfl (.tmp 47) (.tmp 49) 50 68 (.agg #[.int .i64 0, .int .i64 0, .int .i64 0, .int .i64 0, .int .i64 0]) 40 rfl Try.underlying50 info68 rfl (by decide) (by omega) _ xs ⟨x0, x1, x2, x3, x4⟩ [.int .i64 x0, .int .i64 x1, .int .i64 x2, .int .i64 x3, .int .i64 x4] (fun k => k ≠ gr) (fun _ => False) rfl rfl ?aM (fun _ h => h.elim) ?aF ?aR ?aB ?aS ?aL ?_; (case aM => exact k68_mkM _ _ _ _); (case aR => exact HC8.out.2.2.2.2.2.1); (case aB => exact Below.refl _ _); (case aF => exact (fun k hk => by have := HGl.out; have := HC8.out.2.2.1.1; omega)); (case aS => exact HC8.out.2.2.1.1); (case aL => rw [hxl.out]; omega); intro v9 w29 ho hb hg hat; obtain ⟨n9, A9, c9, e9⟩ : ∃ n A c, v9 = .slice A n c := (by obtain ⟨A, c, h⟩ := Kd.R_slice ho; exact ⟨_, A, c, h⟩); subst e9; have HC9 := Lib.hid (HC8.out.ins HRz.out HGl.out HG4.out.1 HG4.out.2 hb hg ho); have hY : w29.heap[g4]? = some (.cells #[.int .i64 a0, .int .i64 a1, .slice Al xs.length cl, .slice none 0 0] 53 (0, 0)) := (hg.block g4 (blk_lt HC8.out.2.2.2.2.1) (Kd.R_ne HC8.out.2.2.2.2.2.1 HC8.out.2.2.2.2.1 (by decide))).trans HC8.out.2.2.2.2.1; have z16 := (blk_cell hY 2).trans rfl; have f16 := blk_frozen hY 2; clear ho hb hg hat hY)
      rw [← HV.out, ← HZ4.out] at HC9
      refine ⟨⟨i + 1, xs ++ [vIns (rs, false)], rIns (rs, false), _, by go_num, Lib.hid (HM.out.next rfl (by omega) (rIns_len _) (rIns_or _)), HC9⟩, by simp [intOf]; omega⟩
    · have HE : Hid (xs = vMany vIns rIns a2.toNat (rInts 4 s) ∧ st = rMany rIns a2.toNat (rInts 4 s)) := Lib.hid (by
        by_cases hb : st.2 = true
        · exact HM.out.stop_bad hb
        · exact HM.out.stop (fun h => hgo ⟨by omega, by simpa using hb⟩))
      have hex : (decide ((i : Int) < a2) = true ∧ st.2 = true) ∨ decide ((i : Int) < a2) = false := by
        by_cases hlt : (i : Int) < a2
        · by_cases hb : st.2 = true
          · exact .inl ⟨decide_eq_true hlt, hb⟩
          · exact absurd ⟨hlt, by simpa using hb⟩ hgo
        · exact .inr (decide_eq_false hlt)
      clear hgo
      rw [← show sIns s = rMany rIns a2.toNat (rInts 4 s) from by rw [N2.out, Nh.out]; rfl] at HE
      obtain ⟨ys, hys⟩ : ∃ ys, ys = vMany vIns rIns a2.toNat (rInts 4 s) := ⟨_, rfl⟩
      rw [← hys] at HE
      have NY := Lib.hid hys
      clear hys HM
      rcases hex with ⟨d1, hb⟩ | d1
      rw [hb] at z1
      all_goals
        rw [HE.out.1, HE.out.2] at HC
        go_wp2
        clear c2 z1 d1 b4 b5 HE
        try clear hb
        obtain ⟨a3, ha3⟩ : ∃ a3, a3 = hd.getD 3 0 := ⟨_, rfl⟩
        have N3 := Lib.hid ha3
        clear ha3
        go_loopw [7] (fun v7 wr => ∃ (i : Nat) (zs : List S72) (st : RSt) (v3 : Value), v7 = .int .i64 i ∧ Hid (Man vMap rMap a3.toNat (sIns s) i zs st) ∧ Hid (CSt w0 gr w g2 g4 hd (.slice (some ah) L ch) a0 a1 wr st v2 v3 ys zs)) (fun v7 _ => (a3 - intOf v7).toNat)
        case atStart => exact ⟨0, [], sIns s, _, rfl, Lib.hid (Man.start _ _ _ _), HC⟩
        case round =>
          clear HC
          obtain ⟨i, zs, st, v3, rfl, HM, HC⟩ := hrel
          obtain ⟨ah', e3, c3⟩ := at_R HC.out.1 3 (by have := NL.out; omega)
          obtain rfl : ah = ah' := Option.some.inj e3
          replace c3 : wr.cell? ⟨ah.block, ah.off + 3, none⟩ = some (.int .i64 (hd.getD 3 0)) := c3
          rw [← N3.out] at c3
          clear e3
          have b6 : (3 : Int) < (L : Int) := by omega
          have b7 : 3 < L := by omega
          obtain ⟨A, c, hb⟩ := HC.out.2.1.has
          have z1 : wr.cell? ⟨gr, 1, none⟩ = some (.bool st.2) := (blk_cell hb 1).trans rfl
          clear hb
          have hsl : st.1.length ≤ s.1.length := Nat.le_trans HM.out.2.2.2.2.1 (Nat.le_trans (rMany_len rIns_len _ _) (rInts_len 4 s))
          by_cases hgo : (i : Int) < a3 ∧ st.2 = false
          · obtain ⟨hlt, hbd⟩ := hgo
            have d1 : decide ((i : Int) < a3) = true := decide_eq_true hlt
            have HBd := Lib.hid hbd
            rw [hbd] at z1
            clear hbd
            have HRw := Lib.hid (show gr < wr.heap.size from by have := HC.out.2.2.1.1; have := HGl.out; omega)
            have HRx := Lib.hid (show w0.heap.size ≤ wr.heap.size from by have := HC.out.2.2.1.1; have := HRz.out; omega)
            obtain ⟨y2, hy2⟩ : ∃ y2 : List Int, y2 = [0, 0] := ⟨_, rfl⟩
            have Ny2 := Lib.hid hy2
            clear hy2
            go_upto_region 13 with (first
              | (go_at_call 39; refine (ints_c w0 gr st.1 st.2 2 wr HC.out.2.1 (by omega)).mono ?_; rintro e w31 ⟨v, rfl, hR, hr, hk⟩; obtain ⟨Av1, cv1, rfl⟩ := Kd.R_slice hR; have HO1 := Lib.hid hR; have HR1 := Lib.hid hr; have HK1 := Lib.hid hk; clear hR hr hk)
              | ((with_reducible refine gate_dst (N := 68) rfl ?_); refine Kd.R_lit (Kd.int .i64) _ 3 ?hg (N := 68) ?hd (xs := [0, 0]) (inner := [.int .i64 0, .int .i64 0]) (ok := fun _ => True) (okp := fun _ => True) ?hr ?hp (fun _ hk => hk) trivial (Below.refl _ _) (Nat.le_refl _) (by simp) ?_; (case hd => rfl); (case hg => rfl); (case hr => first | (go_simp; done) | (go_simp; rfl)); (case hp => exact (Reps.one (show Kd.M (Kd.int .i64) _ _ _ (0 : Int) [.int .i64 0] from rfl) (Reps.one (show Kd.M (Kd.int .i64) _ _ _ (0 : Int) [.int .i64 0] from rfl) (Reps.none _ _)))); intro vL w32 hoL hb hg_ hnew_; clear hg_ hnew_; rw [← Ny2.out] at hoL; have HOL := Lib.hid hoL; have HO2 := Lib.hid (Kd.R_below HO1.out hb); have HR2 := Lib.hid (HR1.out.below hb); have HK2 := Lib.hid (HK1.out.trans (KeepR.of_below hb)); clear hb hoL; obtain ⟨Ao8, co8, eo8⟩ := Kd.R_slice HOL.out; subst eo8)
              | ((with_reducible refine gate_builtin (b := .append) (xs := #[.tmp 67, .tmp 68]) rfl ?_); at_builtin; refine Kd.R_append_rows (Kd.int .i64) (w0 := w32) wr.heap.size rfl (.tmp 67) (.tmp 68) 70 3 (.int .i64 0) 8 rfl Try.underlying70 info3 rfl (by decide) (by omega) _ (vInts 2 st) y2 _ _ _ (fun k => k ≠ gr) (fun _ => False) rfl rfl ?aO ?aR (fun _ _ h => h) (fun _ h => h.elim) ?aF ?aB ?aS ?aL ?_; (case aO => exact HO2.out); (case aR => exact (Kd.R_reads' HOL.out).2.2); (case aB => exact Below.refl _ _); (case aF => exact (fun k hk => by have := HRw.out; have := HK2.out.1; omega)); (case aS => exact HK2.out.1); (case aL => have := intsV_len 2 st.1 st.2; have := congrArg List.length Ny2.out; rw [List.length_cons, List.length_singleton] at this; unfold vInts; omega); intro v155 w33 ho hb hg hat; rw [Ny2.out] at ho; have HO3 := Lib.hid (show Kd.R (Kd.int .i64) 3 w33 wr.heap.size (fun k => k ≠ gr) v155 (hMap st) from ho); have HK3 := Lib.hid (HK2.out.grow hb); have HR3 := Lib.hid (HR2.out.grow hb HRx.out (hb.block gr HRw.out)); clear ho hb hg hat))
            have HKd : Hid (KeepR gr wr w33.drew) := Lib.hid (HK3.out.trans (KeepR.of_below (below_drew (Below.refl _ _))))
            have HRd' : Hid (Rdr w0 w33.drew gr (rInts 2 st).1 (rInts 2 st).2) := Lib.hid (HR3.out.below (below_drew (Below.refl _ _)))
            have HOd : Hid (Kd.R (Kd.int .i64) 3 w33.drew wr.heap.size (fun k => k ≠ gr) v155 (hMap st)) := Lib.hid (Kd.R_below HO3.out (below_drew (Below.refl _ _)))
            clear HO1 HR1 HK1 HO2 HR2 HK2 HOL HO3 HK3 HR3 c3 z1 b6 b7
            obtain ⟨pm, hpm⟩ : ∃ pm, pm = hMap st := ⟨_, rfl⟩
            rw [← hpm] at HOd
            have hm2 : 2 ≤ pm.length := by rw [hpm]; exact hMap_len st
            have NP := Lib.hid hpm
            clear hpm
            obtain ⟨Ap, cp, rfl⟩ := Kd.R_slice HOd.out
            obtain ⟨ap, e4, t0⟩ := at_R HOd.out 0 (by omega)
            subst e4
            obtain ⟨ap', e4, t1⟩ := at_R HOd.out 1 (by omega)
            obtain rfl : ap = ap' := Option.some.inj e4
            rw [show ap.add 0 = ap from by unfold Addr.add; rfl] at t0
            clear e4
            obtain ⟨p0, hp0⟩ : ∃ p0, p0 = pm.getD 0 0 := ⟨_, rfl⟩
            obtain ⟨p1, hp1⟩ : ∃ p1, p1 = pm.getD 1 0 := ⟨_, rfl⟩
            rw [← hp0] at t0
            rw [← hp1] at t1
            have T0 : Hid (Two ap p0 p1 w33.drew) := Lib.hid ⟨t0, t1⟩
            have NP0 := Lib.hid hp0
            have NP1 := Lib.hid hp1
            have hbk : Hid (ap.block < w33.drew.heap.size ∧ ap.block ≠ gr ∧ ∃ cells, w33.drew.heap[ap.block]? = some (.cells cells 3 (0, 0))) := Lib.hid ⟨Kd.R_lt HOd.out _ rfl, HOd.out.1 _ rfl, Kd.R_typed HOd.out _ rfl⟩
            clear hp0 hp1 t0 t1
            obtain ⟨M, hM⟩ : ∃ M, M = pm.length := ⟨_, rfl⟩
            rw [← hM] at hm2 ⊢
            clear hM HOd
            have b8 : (0 : Int) < (M : Int) := by omega
            have b9 : (1 : Int) < (M : Int) := by omega
            have b10 : 0 < M := by omega
            have b11 : 1 < M := by omega
            have HCd := Lib.hid (HC.out.keep HKd.out HRd'.out)
            obtain ⟨A3, n3, c3, e5⟩ : ∃ A n c, v3 = .slice A n c := by obtain ⟨A, c, h⟩ := Kd.S_slice HC.out.2.2.2.2.2.2; exact ⟨A, _, c, h⟩
            subst e5
            have y3 := (blk_cell HCd.out.2.2.2.2.1 3).trans rfl
            have hs3 : (rInts 2 st).1.length ≤ 1099511627776 := by have := rInts_len 2 st; omega
            refine wp_region_held_drew (S := fun w' => w'.cell? ap = some (.int .i64 p0) ∧ w'.cell? ⟨ap.block, ap.off + 1, none⟩ = some (.int .i64 p1)) (by kernel_rfl) T0.out (fun hHeld => ?_)
            generalize w33.drew = w34 at *
            refine wpAnyH_take (i := 0) (v := ?_) rfl (by kernel_rfl) (by kernel_rfl) (by kernel_rfl) (fun _ _ _ h => h) (Or.inl ⟨by rfl, ?_⟩) (by assumption) ?_
            rotate_left
            · (intro w' hSw; (try dsimp only at hSw); first | (go_simp; done) | (go_simp; with_reducible rfl))
            try simp only [Act.put, List.setIfInBounds_toArray, List.set_cons_zero, List.set_cons_succ]
            refine wpAnyH_take (i := 2) (v := ?_) rfl (by kernel_rfl) (by kernel_rfl) (by kernel_rfl) (fun _ _ _ h => h) (Or.inl ⟨by rfl, ?_⟩) (by assumption) ?_
            rotate_left
            · (intro w' hSw; (try dsimp only at hSw); first | (go_simp; done) | (go_simp; with_reducible rfl))
            try simp only [Act.put, List.setIfInBounds_toArray, List.set_cons_zero, List.set_cons_succ]
            refine wpAnyH_take (i := 3) (v := ?_) rfl (by kernel_rfl) (by kernel_rfl) (by kernel_rfl) (fun _ _ _ h => h) (Or.inl ⟨by rfl, ?_⟩) (by assumption) ?_
            rotate_left
            · (intro w' hSw; (try dsimp only at hSw); first | (go_simp; done) | (go_simp; with_reducible rfl))
            try simp only [Act.put, List.setIfInBounds_toArray, List.set_cons_zero, List.set_cons_succ]
            refine wpAnyH_take (i := 4) (v := ?_) rfl (by kernel_rfl) (by kernel_rfl) (by kernel_rfl) (fun _ _ _ h => h) (Or.inl ⟨by rfl, ?_⟩) (by assumption) ?_
            rotate_left
            · (intro w' hSw; (try dsimp only at hSw); first | (go_simp; done) | (go_simp; with_reducible rfl))
            try simp only [Act.put, List.setIfInBounds_toArray, List.set_cons_zero, List.set_cons_succ]
            refine wpAnyH_take (i := 5) (v := ?_) rfl (by kernel_rfl) (by kernel_rfl) (by kernel_rfl) (fun _ _ _ h => h) (Or.inl ⟨by rfl, ?_⟩) (by assumption) ?_
            rotate_left
            · (intro w' hSw; (try dsimp only at hSw); first | (go_simp; done) | (go_simp; with_reducible rfl))
            try simp only [Act.put, List.setIfInBounds_toArray, List.set_cons_zero, List.set_cons_succ]
            refine wpAnyH_take (i := 6) (v := ?_) rfl (by kernel_rfl) (by kernel_rfl) (by kernel_rfl) (fun _ _ _ h => h) (Or.inl ⟨by rfl, ?_⟩) (by assumption) ?_
            rotate_left
            · (intro w' hSw; (try dsimp only at hSw); first | (go_simp; done) | (go_simp; with_reducible rfl))
            try simp only [Act.put, List.setIfInBounds_toArray, List.set_cons_zero, List.set_cons_succ]
            refine wpAnyH_take (i := 7) (v := ?_) rfl (by kernel_rfl) (by kernel_rfl) (by kernel_rfl) (fun _ _ _ h => h) (Or.inl ⟨by rfl, ?_⟩) (by assumption) ?_
            rotate_left
            · (intro w' hSw; (try dsimp only at hSw); first | (go_simp; done) | (go_simp; with_reducible rfl))
            try simp only [Act.put, List.setIfInBounds_toArray, List.set_cons_zero, List.set_cons_succ]
            refine wpAnyH_take (i := 8) (v := ?_) rfl (by kernel_rfl) (by kernel_rfl) (by kernel_rfl) (fun _ _ _ h => h) (Or.inl ⟨by rfl, ?_⟩) (by assumption) ?_
            rotate_left
            · (intro w' hSw; (try dsimp only at hSw); first | (go_simp; done) | (go_simp; with_reducible rfl))
            try simp only [Act.put, List.setIfInBounds_toArray, List.set_cons_zero, List.set_cons_succ]
            refine wpAnyH_ready (rs := [1, 9]) (by kernel_rfl) (by simp) ?_
            refine AllReadyH.cons rfl (fun K hK => ?_) (AllReadyH.cons rfl (fun K hK => ?_) AllReadyH.nil)
            go_simp
            refine hK.out _ _ (hHeld) (fun hHeld => ?_)
            clear hK K
            try simp only [Act.put, List.setIfInBounds_toArray, List.set_cons_zero, List.set_cons_succ]
            refine wpAnyH_ready (rs := [9]) (by kernel_rfl) (by simp) ?_
            refine AllReadyH.cons rfl (fun K hK => ?_) AllReadyH.nil
            go_simp
            refine (ints_c w0 gr (rInts 2 st).1 (rInts 2 st).2 p1 w34 HRd'.out hs3).mono ?_; rintro e w35 ⟨vq, rfl, hR, hr, hk⟩; obtain ⟨nq, Aq, cq, eq⟩ : ∃ n A c, vq = .slice A n c := (by obtain ⟨A, c, h⟩ := Kd.R_slice hR; exact ⟨_, A, c, h⟩); subst eq; have HC5 := Lib.hid (HCd.out.keep (s1 := rInts p1.toNat (rInts 2 st)) hk hr); have HS5 := Lib.hid (S_split HCd.out.2.2.2.2.2.2 hk); have HQ5 := Lib.hid (R_fresh hR HCd.out.2.2.1.1); have HT5 := Lib.hid (T0.out.block (hk.2 _ hbk.out.1 hbk.out.2.1)); have HL5 := Lib.hid hk; clear hR hr hk; have y5 := (blk_cell HC5.out.2.2.2.2.1 3).trans rfl
            go_simp
            refine hK.out _ _ (HT5.out) (fun hHeld => ?_)
            clear hK K
            try simp only [Act.put, List.setIfInBounds_toArray, List.set_cons_zero, List.set_cons_succ]
            refine wpAnyH_take (i := 10) (v := ?_) rfl (by kernel_rfl) (by kernel_rfl) (by kernel_rfl) (fun _ _ _ h => h) (Or.inl ⟨by rfl, ?_⟩) (by assumption) ?_
            rotate_left
            · (intro w' hSw; (try dsimp only at hSw); first | (go_simp; done) | (go_simp; with_reducible rfl))
            try simp only [Act.put, List.setIfInBounds_toArray, List.set_cons_zero, List.set_cons_succ]
            refine wpAnyH_ready (rs := [11]) (by kernel_rfl) (by simp) ?_
            refine AllReadyH.cons rfl (fun K hK => ?_) AllReadyH.nil
            go_simp
            refine hK.out _ _ (HT5.out.block (two_alloc _ (Nat.lt_of_lt_of_le hbk.out.1 HL5.out.1))) (fun hHeld => ?_)
            clear hK K
            try simp only [Act.put, List.setIfInBounds_toArray, List.set_cons_zero, List.set_cons_succ]
            rotate_left
            go_simp
            refine (ints_c w0 gr (rInts 2 st).1 (rInts 2 st).2 p1 w34 HRd'.out hs3).mono ?_; rintro e w35 ⟨vq, rfl, hR, hr, hk⟩; obtain ⟨nq, Aq, cq, eq⟩ : ∃ n A c, vq = .slice A n c := (by obtain ⟨A, c, h⟩ := Kd.R_slice hR; exact ⟨_, A, c, h⟩); subst eq; have HC5 := Lib.hid (HCd.out.keep (s1 := rInts p1.toNat (rInts 2 st)) hk hr); have HS5 := Lib.hid (S_split HCd.out.2.2.2.2.2.2 hk); have HQ5 := Lib.hid (R_fresh hR HCd.out.2.2.1.1); have HT5 := Lib.hid (T0.out.block (hk.2 _ hbk.out.1 hbk.out.2.1)); have HL5 := Lib.hid hk; clear hR hr hk; have y5 := (blk_cell HC5.out.2.2.2.2.1 3).trans rfl
            go_simp
            refine hK.out _ _ (HT5.out) (fun hHeld => ?_)
            clear hK K
            try simp only [Act.put, List.setIfInBounds_toArray, List.set_cons_zero, List.set_cons_succ]
            refine wpAnyH_take (i := 10) (v := ?_) rfl (by kernel_rfl) (by kernel_rfl) (by kernel_rfl) (fun _ _ _ h => h) (Or.inl ⟨by rfl, ?_⟩) (by assumption) ?_
            rotate_left
            · (intro w' hSw; (try dsimp only at hSw); first | (go_simp; done) | (go_simp; with_reducible rfl))
            try simp only [Act.put, List.setIfInBounds_toArray, List.set_cons_zero, List.set_cons_succ]
            refine wpAnyH_ready (rs := [1, 11]) (by kernel_rfl) (by simp) ?_
            refine AllReadyH.cons rfl (fun K hK => ?_) (AllReadyH.cons rfl (fun K hK => ?_) AllReadyH.nil)
            go_simp
            refine hK.out _ _ (HT5.out) (fun hHeld => ?_)
            clear hK K
            try simp only [Act.put, List.setIfInBounds_toArray, List.set_cons_zero, List.set_cons_succ]
            refine wpAnyH_ready (rs := [11]) (by kernel_rfl) (by simp) ?_
            refine AllReadyH.cons rfl (fun K hK => ?_) AllReadyH.nil
            go_simp
            refine hK.out _ _ (HT5.out.block (two_alloc _ (Nat.lt_of_lt_of_le hbk.out.1 HL5.out.1))) (fun hHeld => ?_)
            clear hK K
            try simp only [Act.put, List.setIfInBounds_toArray, List.set_cons_zero, List.set_cons_succ]
            rotate_left
            go_simp
            refine hK.out _ _ (HT5.out.block (two_alloc _ (Nat.lt_of_lt_of_le hbk.out.1 HL5.out.1))) (fun hHeld => ?_)
            clear hK K
            try simp only [Act.put, List.setIfInBounds_toArray, List.set_cons_zero, List.set_cons_succ]
            have y6 := (blk_cell (blk_below HC5.out.2.2.2.2.1 (below_alloc (Below.refl _ _) (.cells #[.int .i64 p0, .slice Aq nq cq] 72))) 3).trans rfl
            refine wpAnyH_ready (rs := [1]) (by kernel_rfl) (by simp) ?_
            refine AllReadyH.cons rfl (fun K hK => ?_) AllReadyH.nil
            go_simp
            refine hK.out _ _ (HT5.out.block (two_alloc _ (Nat.lt_of_lt_of_le hbk.out.1 HL5.out.1))) (fun hHeld => ?_)
            clear hK K
            try simp only [Act.put, List.setIfInBounds_toArray, List.set_cons_zero, List.set_cons_succ]
            all_goals
              refine wpAnyH_ready (rs := [12]) (by kernel_rfl) (by simp) ?_
              refine AllReadyH.cons rfl (fun K hK => ?_) AllReadyH.nil
              refine Kd.S_append_step k72 (w0 := w35) w.heap.size (by rfl) (.tmp 71) (.tmp 81) 51 72 (.agg #[.int .i64 0, .slice none 0 0]) 32 rfl Try.underlying51 info72 rfl (by decide) (by omega) _ zs ⟨p0, intsV p1.toNat (rInts 2 st).1 (rInts 2 st).2⟩ [.int .i64 p0, .slice Aq nq cq] (fun k => k ≠ gr) (fun k => w34.heap.size ≤ k ∧ k ≠ gr) rfl rfl (k72_mkM _ _ _ _ HQ5.out) (fun k h => ⟨h.2, fun e => by have := Kd.S_lt HCd.out.2.2.2.2.2.2 k e.symm; omega⟩) (fun k hk => by have := HGl.out; have := HC5.out.2.2.1.1; omega) HS5.out (Below.refl _ _) HC5.out.2.2.1.1 (by rw [HM.out.2.2.2.1]; have := HM.out.small HBd.out; have := rMany_len rIns_len ((hCode s).getD 2 0).toNat (rInts 4 s); have := rInts_len 4 s; have h : (sIns s).1.length ≤ s.1.length := Nat.le_trans (rMany_len rIns_len _ _) (rInts_len 4 s); omega) ?_
              intro v9 w36 ho hb hg hat
              obtain ⟨n9, A9, c9, e9⟩ : ∃ n A c, v9 = .slice A n c := by obtain ⟨A, c, h⟩ := Kd.S_slice ho; exact ⟨_, A, c, h⟩
              subst e9
              have HC6 := Lib.hid (HC5.out.map HRz.out HGl.out HG4.out.1 HG4.out.2 hb hg ho)
              have hY : w36.heap[g4]? = some (.cells #[.int .i64 a0, .int .i64 a1, v2, .slice A3 n3 c3] 53 (0, 0)) := (hg.block g4 (blk_lt HC5.out.2.2.2.2.1) (Kd.S_ne HC5.out.2.2.2.2.2.2 HC5.out.2.2.2.2.1 (by decide))).trans HC5.out.2.2.2.2.1
              have z16 := (blk_cell hY 3).trans rfl
              have f16 := blk_frozen hY 3
              obtain ⟨cells3, hbk3⟩ := hbk.out.2.2
              have hbk5 := (HL5.out.2 _ hbk.out.1 hbk.out.2.1).trans hbk3
              have HT6 := Lib.hid (HT5.out.block (hg.block _ (blk_lt hbk5) (Kd.S_ne HC5.out.2.2.2.2.2.2 hbk5 (by decide))))
              have hne3 : ap.block ≠ g4 := blk_apart hbk5 HC5.out.2.2.2.2.1 (by decide)
              clear ho hb hg hat hY
              refine hK.out _ _ (HT6.out) (fun hHeld => ?_)
              clear hK K
              try simp only [Act.put, List.setIfInBounds_toArray, List.set_cons_zero, List.set_cons_succ]
              refine wpAnyH_ready (rs := [13]) (by kernel_rfl) (by simp) ?_
              refine AllReadyH.cons rfl (fun K hK => ?_) AllReadyH.nil
              go_simp
              refine hK.out _ _ (HT6.out) (fun hHeld => ?_)
              clear hK K
              try simp only [Act.put, List.setIfInBounds_toArray, List.set_cons_zero, List.set_cons_succ]
              refine wpAnyH_ready (rs := [14]) (by kernel_rfl) (by simp) ?_
              refine AllReadyH.cons rfl (fun K hK => ?_) AllReadyH.nil
              go_simp
              refine hK.out _ _ (HT6.out.block (Below.heap_setCell w36 ⟨g4, 3, none⟩ _ _ hne3)) (fun hHeld => ?_)
              clear hK K
              try simp only [Act.put, List.setIfInBounds_toArray, List.set_cons_zero, List.set_cons_succ]
              refine wpAnyH_done (by kernel_rfl) ?_ _
              have hism : i ≤ 1099511627 := Nat.le_trans (HM.out.small HBd.out) (Nat.le_trans (Nat.le_trans (rMany_len rIns_len _ _) (rInts_len 4 s)) hl)
              go_wp2
              refine ⟨⟨i + 1, zs ++ [vMap st], rMap st, .slice A9 n9 c9, by go_num, Lib.hid (HM.out.next HBd.out (by omega) (rMap_len _) (rMap_or _ HBd.out)), Lib.hid ?_⟩, by simp [intOf]; omega⟩
              have h6 := HC6.out
              rw [NP0.out, NP1.out, NP.out] at h6
              exact h6
          · have HE : Hid (zs = vMany vMap rMap a3.toNat (sIns s) ∧ st = rMany rMap a3.toNat (sIns s)) := Lib.hid (by
              by_cases hb : st.2 = true
              · exact HM.out.stop_bad hb
              · exact HM.out.stop (fun h => hgo ⟨by omega, by simpa using hb⟩))
            have hex : (decide ((i : Int) < a3) = true ∧ st.2 = true) ∨ decide ((i : Int) < a3) = false := by
              by_cases hlt : (i : Int) < a3
              · by_cases hb : st.2 = true
                · exact .inl ⟨decide_eq_true hlt, hb⟩
                · exact absurd ⟨hlt, by simpa using hb⟩ hgo
              · exact .inr (decide_eq_false hlt)
            clear hgo
            obtain ⟨n2, A2, q2, e2⟩ : ∃ n A c, v2 = .slice A n c := by obtain ⟨A, c, h⟩ := Kd.R_slice HC.out.2.2.2.2.2.1; exact ⟨_, A, c, h⟩
            subst e2
            obtain ⟨n3, A3, q3, e3⟩ : ∃ n A c, v3 = .slice A n c := by obtain ⟨A, c, h⟩ := Kd.S_slice HC.out.2.2.2.2.2.2; exact ⟨_, A, c, h⟩
            subst e3
            have HF : Hid (∀ w40, ((((wr.setCell ⟨g2, 0, none⟩ (.int .i64 a0)).setCell ⟨g2, 1, none⟩ (.int .i64 a1)).setCell ⟨g2, 2, none⟩ (.slice A2 n2 q2)).setCell ⟨g2, 3, none⟩ (.slice A3 n3 q3)) = w40 → Code w0 gr s w (.returned (.agg #[.int .i64 a0, .int .i64 a1, .slice A2 n2 q2, .slice A3 n3 q3])) w40 ∧ w40.heap[g2]? = some (.cells #[.int .i64 a0, .int .i64 a1, .slice A2 n2 q2, .slice A3 n3 q3] 53 (0, 0))) := Lib.hid (by
              rintro w40 rfl
              have h := HC.out.fin HRz.out HGl.out (Nat.le_of_eq HG2.out.symm) (u0 := .int .i64 a0) (u1 := .int .i64 a1) (u2 := .slice A2 n2 q2) (u3 := .slice A3 n3 q3)
              rw [HE.out.1, HE.out.2, NY.out, N3.out, N2.out, Nh.out] at h
              refine ⟨⟨_, _, ?_, h.1, h.2.1, h.2.2.1, h.2.2.2⟩, by simpa using blk_set (blk_set (blk_set (blk_set HC.out.2.2.2.1 0 (.int .i64 a0)) 1 (.int .i64 a1)) 2 (.slice A2 n2 q2)) 3 (.slice A3 n3 q3)⟩
              rw [N0.out, N1.out, Nh.out]
              rfl)
            have z20 := (blk_cell HC.out.2.2.2.2.1 0).trans rfl
            have z21 := (blk_cell HC.out.2.2.2.2.1 1).trans rfl
            have z22 := (blk_cell HC.out.2.2.2.2.1 2).trans rfl
            have z23 := (blk_cell HC.out.2.2.2.2.1 3).trans rfl
            have z30 := (blk_cell HC.out.2.2.2.1 0).trans rfl
            have z31 := (blk_cell HC.out.2.2.2.1 1).trans rfl
            have z32 := (blk_cell HC.out.2.2.2.1 2).trans rfl
            have z33 := (blk_cell HC.out.2.2.2.1 3).trans rfl
            have f30 := blk_frozen HC.out.2.2.2.1 0
            have f31 := blk_frozen HC.out.2.2.2.1 1
            have f32 := blk_frozen HC.out.2.2.2.1 2
            have f33 := blk_frozen HC.out.2.2.2.1 3
            have hu53 := Try.underlying53
            clear HC HE
            rcases hex with ⟨d1, hb⟩ | d1
            rw [hb] at z1
            all_goals
              go_wp2
              generalize hW : World.setCell _ _ _ = w40
              obtain ⟨hF, hX⟩ := HF.out w40 hW
              have HF2 := Lib.hid hF
              (try simp only [Exit.inBlock, Exit.then])
              refine bodyPost_ret (results_cell_row rfl _ _ g2 53 _ (0, 0) _ rfl hX Try.underlying53 rfl (by kernel_rfl)) rfl ?_
              exact HF2.out

end Go.Proofs.Ytkfeoilnhpfknaa.ImFnExactImageRead
