/- What spec.ImageRead holds while it reads. -/
import Derived.Test.YtkfeoilnhpfknaaRdlFnExactImageRead
namespace Go.Proofs.Ytkfeoilnhpfknaa.ImFnExactImageRead
open Go.RowKit Go.Proofs.Ytkfeoilnhpfknaa.QFnExactImageRead Go.Proofs.YtkfeoilnhpfknaaW.PrintWords Go.Proofs.YtkfeoilnhpfknaaW.PrintLast
set_option linter.unusedVariables false

/-- Having read i of n; what the list holds is told where there was no fault. -/
def SMan {α : Type} (v : RSt → α) (r : RSt → RSt) (n : Nat) (s0 : RSt) (i : Nat) (xs : List α) (st : RSt) : Prop := i ≤ n ∧ (st.2 = false → xs ++ vMany v r (n - i) st = vMany v r n s0) ∧ rMany r (n - i) st = rMany r n s0 ∧ xs.length ≤ i
theorem SMan.start {α : Type} (v : RSt → α) (r : RSt → RSt) (n : Nat) (s0 : RSt) : SMan v r n s0 0 [] s0 := ⟨Nat.zero_le _, fun _ => rfl, rfl, Nat.le_refl _⟩
theorem SMan.next {α : Type} {v : RSt → α} {r : RSt → RSt} {n : Nat} {s0 : RSt} {i : Nat} {xs : List α} {st : RSt} (h : SMan v r n s0 i xs st) (hb : st.2 = false) (hlt : i < n) {x : α} (hx : (r st).2 = false → x = v st) : SMan v r n s0 (i + 1) (xs ++ [x]) (r st) := by
  obtain ⟨h1, h2, h3, h4⟩ := h
  have e : n - i = (n - (i + 1)) + 1 := by omega
  have hn : ¬ st.2 = true := by rw [hb]; decide
  have h2 := h2 hb
  rw [e, vMany, if_neg hn] at h2
  rw [e, rMany, if_neg hn] at h3
  exact ⟨hlt, fun hr => by rw [hx hr, List.append_assoc]; exact h2, h3, by rw [List.length_append, List.length_singleton]; omega⟩
theorem SMan.stop {α : Type} {v : RSt → α} {r : RSt → RSt} {n : Nat} {s0 : RSt} {i : Nat} {xs : List α} {st : RSt} (h : SMan v r n s0 i xs st) (hs : ¬ (i < n ∧ st.2 = false)) : st = rMany r n s0 ∧ ((rMany r n s0).2 = false → xs = vMany v r n s0) := by
  obtain ⟨h1, h2, h3, h4⟩ := h
  by_cases hb : st.2 = true
  · rw [rMany_bad r _ hb] at h3
    refine ⟨h3, fun h => ?_⟩
    rw [← h3, hb] at h
    cases h
  · have hb' : st.2 = false := by simpa using hb
    have e : n - i = 0 := by
      have : ¬ i < n := fun h => hs ⟨h, hb'⟩
      omega
    have h2 := h2 hb'
    rw [e] at h2 h3
    exact ⟨h3, fun _ => by rw [← h2]; exact (List.append_nil _).symm⟩
/-- One that cannot be read ends it. -/
theorem SMan.brk {α : Type} {v : RSt → α} {r : RSt → RSt} {n : Nat} {s0 : RSt} {i : Nat} {xs : List α} {st : RSt} (h : SMan v r n s0 i xs st) (hb : st.2 = false) (hlt : i < n) (hr : (r st).2 = true) : r st = rMany r n s0 := by
  obtain ⟨h1, h2, h3, h4⟩ := h
  have e : n - i = (n - (i + 1)) + 1 := by omega
  have hn : ¬ st.2 = true := by rw [hb]; decide
  rw [e, rMany, if_neg hn, rMany_bad r _ hr] at h3
  exact h3

theorem svNum_range (most : Int) (hm : 0 ≤ most) (s : RSt) (hb : Byt s.1) : 0 ≤ svNum most s ∧ svNum most s ≤ most := by
  have := two_range hb
  unfold svNum
  split
  · exact ⟨by decide, hm⟩
  · rename_i c
    have : ¬ most < two s.1 := fun h => c (.inr (.inr h))
    omega
theorem Spc.byt {w0 W : World} {g : Nat} {bs : List Int} {s : RSt} (h : Spc w0 W g bs s) (hb : Byt bs) (h1 : s.2 = true → s.1 = []) : Byt s.1 := by
  by_cases d : s.2 = true
  · rw [h1 d]; exact byt_nil
  · exact hb.suf h.2.2 (by simpa using d)
theorem two_lo {bs : List Int} (hb : Byt bs) (most : Int) (hm : 0 ≤ most) {w0 W : World} {g : Nat} {s : RSt} (h : Spc w0 W g bs s) : 0 ≤ svNum most s ∧ svNum most s ≤ most := by
  by_cases d : s.2 = true
  · unfold svNum
    rw [if_pos (.inl d)]
    exact ⟨by decide, hm⟩
  · exact svNum_range most hm s (hb.suf h.2.2 (by simpa using d))

/-- The cursor's cell. -/
theorem Spc.cell {w0 W : World} {g : Nat} {bs : List Int} {s : RSt} (h : Spc w0 W g bs s) : W.cell? ⟨g, 1, none⟩ = some (.int .i64 (atOf bs s)) ∧ W.frozen? ⟨g, 1, none⟩ = false := by
  obtain ⟨_, ⟨A, c, hx, _⟩, _⟩ := h
  exact ⟨(blk_cell hx 1).trans rfl, blk_frozen hx 1⟩
theorem Spc.gt {w0 W : World} {g : Nat} {bs : List Int} {s : RSt} (h : Spc w0 W g bs s) : g < W.heap.size := h.2.1.lt
theorem atOf_bad {bs : List Int} {s : RSt} (h : s.2 = true) : decide (0 ≤ atOf bs s) = false := by
  unfold atOf; rw [if_pos h]; decide
theorem atOf_good {w0 W : World} {g : Nat} {bs : List Int} {s : RSt} (hS : Spc w0 W g bs s) (h : s.2 = false) : decide (0 ≤ atOf bs s) = true := by
  have := hS.2.2.le h
  unfold atOf; rw [if_neg (by rw [h]; decide)]; exact decide_eq_true (by omega)

/-- The image. -/
def JSt (w : World) (g g2 g5 : Nat) (bs : List Int) (mn : Int) (W : World) (s : RSt) (v0 v1 : Value) (l0 : List (List Bool)) (l1 : List S53) : Prop :=
  Spc w W g bs s ∧ W.heap[g2]? = some (.cells #[.slice none 0 0, .slice none 0 0, .int .i64 0] 30 (0, 0)) ∧ W.heap[g5]? = some (.cells #[v0, v1, .int .i64 mn] 30 (0, 0)) ∧ Kd.R (Kd.slice 4 Kd.bool) 55 W w.heap.size (fun k => k ≠ g) v0 l0 ∧ Kd.R k53 53 W w.heap.size (fun k => k ≠ g) v1 l1
theorem JSt.keep {w W W1 : World} {g g2 g5 : Nat} {bs : List Int} {mn : Int} {s s1 : RSt} {v0 v1 : Value} {l0 : List (List Bool)} {l1 : List S53} (h : JSt w g g2 g5 bs mn W s v0 v1 l0 l1) (hk : KeepR g W W1) (hs : Spc w W1 g bs s1) : JSt w g g2 g5 bs mn W1 s1 v0 v1 l0 l1 := by
  obtain ⟨h1, h2, h3, h4, h5⟩ := h
  exact ⟨hs, (hk.2 _ (blk_lt h2) (h1.ne h2 (by decide))).trans h2, (hk.2 _ (blk_lt h3) (h1.ne h3 (by decide))).trans h3, Kd.R_keepR h4 hk (fun _ h => h), Kd.R_keepR h5 hk (fun _ h => h)⟩
theorem JSt.structs {w W W1 : World} {g g2 g5 : Nat} {bs : List Int} {mn : Int} {s : RSt} {v0 v1 u : Value} {l0 l0' : List (List Bool)} {l1 : List S53} (h : JSt w g g2 g5 bs mn W s v0 v1 l0 l1) (hg5 : w.heap.size ≤ g5) (hg2 : g2 ≠ g5) (hb : Below w.heap.size W W1) (hg : W.grownBy W1 v0.ownBlock) (hr : Kd.R (Kd.slice 4 Kd.bool) 55 W1 w.heap.size (fun k => k ≠ g) u l0') : JSt w g g2 g5 bs mn (W1.setCell ⟨g5, 0, none⟩ u) s u v1 l0' l1 := by
  obtain ⟨h1, h2, h3, h4, h5⟩ := h
  have e2 : some g2 ≠ v0.ownBlock := Kd.R_ne h4 h2 (by decide)
  have e5 : some g5 ≠ v0.ownBlock := Kd.R_ne h4 h3 (by decide)
  have er : some g ≠ v0.ownBlock := fun e => h4.1 g e.symm rfl
  have b5 := (hg.block g5 (blk_lt h3) e5).trans h3
  have n5 : g5 ≠ g := h1.ne h3 (by decide)
  exact ⟨(h1.grow hb (Nat.le_refl _) (hg.block g h1.gt er)).new hg5 n5, (Below.heap_setCell W1 ⟨g5, 0, none⟩ u g2 hg2).trans ((hg.block g2 (blk_lt h2) e2).trans h2), by simpa using blk_set b5 0 u, Kd.R_set hr b5 (by decide) 0 u, Kd.R_set (Kd.R_over' h5 (Kd.R_typed h4) (by decide) hg) b5 (by decide) 0 u⟩
theorem JSt.codes {w W W1 : World} {g g2 g5 : Nat} {bs : List Int} {mn : Int} {s : RSt} {v0 v1 u : Value} {l0 : List (List Bool)} {l1 l1' : List S53} (h : JSt w g g2 g5 bs mn W s v0 v1 l0 l1) (hg5 : w.heap.size ≤ g5) (hg2 : g2 ≠ g5) (hb : Below w.heap.size W W1) (hg : W.grownBy W1 v1.ownBlock) (hr : Kd.R k53 53 W1 w.heap.size (fun k => k ≠ g) u l1') : JSt w g g2 g5 bs mn (W1.setCell ⟨g5, 1, none⟩ u) s v0 u l0 l1' := by
  obtain ⟨h1, h2, h3, h4, h5⟩ := h
  have e2 : some g2 ≠ v1.ownBlock := Kd.R_ne h5 h2 (by decide)
  have e5 : some g5 ≠ v1.ownBlock := Kd.R_ne h5 h3 (by decide)
  have er : some g ≠ v1.ownBlock := fun e => h5.1 g e.symm rfl
  have b5 := (hg.block g5 (blk_lt h3) e5).trans h3
  have n5 : g5 ≠ g := h1.ne h3 (by decide)
  exact ⟨(h1.grow hb (Nat.le_refl _) (hg.block g h1.gt er)).new hg5 n5, (Below.heap_setCell W1 ⟨g5, 1, none⟩ u g2 hg2).trans ((hg.block g2 (blk_lt h2) e2).trans h2), by simpa using blk_set b5 1 u, Kd.R_set (Kd.R_over' h4 (Kd.R_typed h5) (by decide) hg) b5 (by decide) 1 u, Kd.R_set hr b5 (by decide) 1 u⟩
/-- A code, since the world wr. -/
def XSt (w wr : World) (g gx : Nat) (bs : List Int) (a0 a1 : Int) (W : World) (s : RSt) (v2 v3 : Value) (xs : List S68) (ys : List S72) : Prop :=
  Spc w W g bs s ∧ KeepR g wr W ∧ W.heap[gx]? = some (.cells #[.int .i64 a0, .int .i64 a1, v2, v3] 53 (0, 0)) ∧ Kd.R k68 68 W wr.heap.size (fun k => k ≠ g) v2 xs ∧ Kd.R k72 72 W wr.heap.size (fun k => k ≠ g) v3 ys
theorem XSt.keep {w wr W W1 : World} {g gx : Nat} {bs : List Int} {a0 a1 : Int} {s s1 : RSt} {v2 v3 : Value} {xs : List S68} {ys : List S72} (h : XSt w wr g gx bs a0 a1 W s v2 v3 xs ys) (hk : KeepR g W W1) (hs : Spc w W1 g bs s1) : XSt w wr g gx bs a0 a1 W1 s1 v2 v3 xs ys := by
  obtain ⟨h1, h2, h3, h4, h5⟩ := h
  exact ⟨hs, h2.trans hk, (hk.2 _ (blk_lt h3) (h1.ne h3 (by decide))).trans h3, Kd.R_keepR h4 hk (fun _ h => h), Kd.R_keepR h5 hk (fun _ h => h)⟩
theorem XSt.ins {w wr W W1 : World} {g gx : Nat} {bs : List Int} {a0 a1 : Int} {s : RSt} {v2 v3 u : Value} {xs xs' : List S68} {ys : List S72} (h : XSt w wr g gx bs a0 a1 W s v2 v3 xs ys) (hw : w.heap.size ≤ wr.heap.size) (hgx : wr.heap.size ≤ gx) (hgl : g < wr.heap.size) (hb : Below wr.heap.size W W1) (hg : W.grownBy W1 v2.ownBlock) (hr : Kd.R k68 68 W1 wr.heap.size (fun k => k ≠ g) u xs') : XSt w wr g gx bs a0 a1 (W1.setCell ⟨gx, 2, none⟩ u) s u v3 xs' ys := by
  obtain ⟨h1, h2, h3, h4, h5⟩ := h
  have b5 := (hg.block gx (blk_lt h3) (Kd.R_ne h4 h3 (by decide))).trans h3
  have n5 : gx ≠ g := h1.ne h3 (by decide)
  exact ⟨(h1.grow hb hw (hb.block g hgl)).new (Nat.le_trans hw hgx) n5, (h2.grow hb).new hgx, by simpa using blk_set b5 2 u, Kd.R_set hr b5 (by decide) 2 u, Kd.R_set (Kd.R_over' h5 (Kd.R_typed h4) (by decide) hg) b5 (by decide) 2 u⟩
theorem XSt.maps {w wr W W1 : World} {g gx : Nat} {bs : List Int} {a0 a1 : Int} {s : RSt} {v2 v3 u : Value} {xs : List S68} {ys ys' : List S72} (h : XSt w wr g gx bs a0 a1 W s v2 v3 xs ys) (hw : w.heap.size ≤ wr.heap.size) (hgx : wr.heap.size ≤ gx) (hgl : g < wr.heap.size) (hb : Below wr.heap.size W W1) (hg : W.grownBy W1 v3.ownBlock) (hr : Kd.R k72 72 W1 wr.heap.size (fun k => k ≠ g) u ys') : XSt w wr g gx bs a0 a1 (W1.setCell ⟨gx, 3, none⟩ u) s v2 u xs ys' := by
  obtain ⟨h1, h2, h3, h4, h5⟩ := h
  have b5 := (hg.block gx (blk_lt h3) (Kd.R_ne h5 h3 (by decide))).trans h3
  have n5 : gx ≠ g := h1.ne h3 (by decide)
  exact ⟨(h1.grow hb hw (hb.block g hgl)).new (Nat.le_trans hw hgx) n5, (h2.grow hb).new hgx, by simpa using blk_set b5 3 u, Kd.R_set (Kd.R_over' h4 (Kd.R_typed h5) (by decide) hg) b5 (by decide) 3 u, Kd.R_set hr b5 (by decide) 3 u⟩
/-- A map, since the world wm. -/
def YSt (w wm : World) (g gy : Nat) (bs : List Int) (p0 : Int) (W : World) (s : RSt) (v : Value) (xs : List Int) : Prop :=
  Spc w W g bs s ∧ KeepR g wm W ∧ W.heap[gy]? = some (.cells #[.int .i64 p0, v] 72 (0, 0)) ∧ Kd.R (Kd.int .i64) 3 W wm.heap.size (fun k => k ≠ g) v xs
theorem YSt.keep {w wm W W1 : World} {g gy : Nat} {bs : List Int} {p0 : Int} {s s1 : RSt} {v : Value} {xs : List Int} (h : YSt w wm g gy bs p0 W s v xs) (hk : KeepR g W W1) (hs : Spc w W1 g bs s1) : YSt w wm g gy bs p0 W1 s1 v xs := by
  obtain ⟨h1, h2, h3, h4⟩ := h
  exact ⟨hs, h2.trans hk, (hk.2 _ (blk_lt h3) (h1.ne h3 (by decide))).trans h3, Kd.R_keepR h4 hk (fun _ h => h)⟩
theorem YSt.slots {w wm W W1 : World} {g gy : Nat} {bs : List Int} {p0 : Int} {s : RSt} {v u : Value} {xs xs' : List Int} (h : YSt w wm g gy bs p0 W s v xs) (hw : w.heap.size ≤ wm.heap.size) (hgy : wm.heap.size ≤ gy) (hgl : g < wm.heap.size) (hb : Below wm.heap.size W W1) (hg : W.grownBy W1 v.ownBlock) (hr : Kd.R (Kd.int .i64) 3 W1 wm.heap.size (fun k => k ≠ g) u xs') : YSt w wm g gy bs p0 (W1.setCell ⟨gy, 1, none⟩ u) s u xs' := by
  obtain ⟨h1, h2, h3, h4⟩ := h
  have b5 := (hg.block gy (blk_lt h3) (Kd.R_ne h4 h3 (by decide))).trans h3
  have n5 : gy ≠ g := h1.ne h3 (by decide)
  exact ⟨(h1.grow hb hw (hb.block g hgl)).new (Nat.le_trans hw hgy) n5, (h2.grow hb).new hgy, by simpa using blk_set b5 1 u, Kd.R_set hr b5 (by decide) 1 u⟩
/-- What the specification answers. -/
def SReadI (bs : List Int) (w : World) (e : Ending) (w' : World) : Prop := ∃ (ok : Bool) (v0 v1 : Value) (l0 : List (List Bool)) (l1 : List S53) (a2 : Int),
  e = .returned (.tuple #[.agg #[v0, v1, .int .i64 a2], .bool ok]) ∧ Kd.R (Kd.slice 4 Kd.bool) 55 w' w.heap.size (fun _ => True) v0 l0 ∧ Kd.R k53 53 w' w.heap.size (fun _ => True) v1 l1 ∧ Below w.heap.size w w' ∧ (ok = true ↔ SGoes bs) ∧
  (if ok = true then l0 = tStructs (st0 bs) ∧ l1 = tCodes (st0 bs) ∧ a2 = tMain (st0 bs) else l0 = [] ∧ l1 = [] ∧ a2 = 0)
theorem SReadI.no {bs : List Int} {w w' : World} (hb : Below w.heap.size w w') (hn : ¬ SGoes bs) : SReadI bs w (.returned (.tuple #[.agg #[.slice none 0 0, .slice none 0 0, .int .i64 0], .bool false])) w' :=
  ⟨false, _, _, [], [], 0, rfl, Kd.R_nil _ _ _ _ _, Kd.R_nil _ _ _ _ _, hb, ⟨fun h => Bool.noConfusion h, fun h => absurd h hn⟩, rfl, rfl, rfl⟩

end Go.Proofs.Ytkfeoilnhpfknaa.ImFnExactImageRead
