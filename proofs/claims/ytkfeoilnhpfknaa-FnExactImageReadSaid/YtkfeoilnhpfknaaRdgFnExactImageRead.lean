/- What impl.ImageRead holds while it reads. -/
import Derived.Test.YtkfeoilnhpfknaaRdfFnExactImageRead
import Derived.Deep.DeepCutAuto
import Derived.Laws.ResultCell
import Derived.Laws.Closers25b
namespace Go.Proofs.Ytkfeoilnhpfknaa.ImFnExactImageRead
open Go.RowKit Go.Proofs.Ytkfeoilnhpfknaa.QFnExactImageRead Go.Proofs.YtkfeoilnhpfknaaW.PrintWords Go.Proofs.YtkfeoilnhpfknaaW.PrintLast

theorem info4 : (Try.prog.info? 4).map (fun i => (i.zero, i.size, i.bytes)) = some (some (.bool false), 1, 1) := by kernel_rfl
theorem info55 : (Try.prog.info? 55).map (fun i => (i.zero, i.size, i.bytes)) = some (some (.slice none 0 0), 1, 24) := by kernel_rfl
theorem info53 : (Try.prog.info? 53).map (fun i => (i.zero, i.size, i.bytes)) = some (some (.agg #[.int .i64 0, .int .i64 0, .slice none 0 0, .slice none 0 0]), 4, 64) := by kernel_rfl
theorem numV_range (m : Nat) (rest : List Int) : -9223372036854775808 ≤ numV m rest ∧ numV m rest ≤ 9223372036854775807 := by
  unfold numV
  split
  · exact ⟨by decide, by decide⟩
  · cases m with
    | zero => exact ⟨(by decide : (-9223372036854775808 : Int) ≤ 0), (by decide : (0 : Int) ≤ 9223372036854775807)⟩
    | succ m => exact ⟨bits_lo_i64 _ _ _, bits_hi_i64 _ _ _⟩
theorem results_cell_row_tmp {P : Program} {fn : Func} {p u : Tmp} {ty : TypeId} (h : fn.results = #[.cell p ty, .tmp u]) (tmps : Array Value) (w : World) (g : Nat) (t : TypeId) (cs : Array Value) (fr : Nat × Nat) (d : TypeDesc)
    (hp : tmps.getD p undef = .pointer (some ⟨g, 0, none⟩)) (hg : w.heap[g]? = some (.cells cs t fr))
    (hu : P.underlying ty = some d) (hd : (match d with | .struct _ | .array _ _ => true | _ => false) = true) (hi : (P.info? ty).map (·.size) = some cs.size) :
    (results fn tmps).run P w = .ok (.tuple #[.agg cs, tmps.getD u undef]) w := by
  rw [results_cell_tmp h, hp]
  simp [asAddr, run_loadVar_row w g t ty cs fr d hg hu hd hi, Result.andThen]
/-- A row that has just been made. -/
theorem R_made {α : Type} (d : Kd α) (w : World) (base e : Nat) (hbase : base ≤ w.heap.size) {xs : List α} {inner : List Value} (hrep : Reps (d.M w base (fun _ => False)) d.sz xs inner) (hm : xs.length ≤ 9223372036854775807) : d.R e (w.alloc (.cells inner.toArray e)) base (fun k => w.heap.size ≤ k) (.slice (some ⟨w.heap.size, 0, none⟩) xs.length xs.length) xs := by
  refine ⟨fun k hk => ?_, inner, ?_, ?_⟩
  · have : w.heap.size = k := by simpa [Value.ownBlock] using hk
    exact Nat.le_of_eq this
  · have h2 := World.ownsRow_lit (base := base) (e := e) (size := d.sz) w inner.toArray xs.length hbase (by simpa [maxLen] using hm) (by simpa using hrep.1)
    simpa using h2
  · exact hrep.imp_ (fun p c hp => d.M_mono (fun k hk => hk.1.elim) (Kd.M_below (d.M_bound hp) (below_alloc (Below.refl _ _) _)))
/-- The two bytes ahead of every image. -/
theorem gi_C (w : World) : Kd.C (Kd.int .u8) (w.alloc (.cells #[.int .u8 71, .int .u8 73] 5)) (some ⟨w.heap.size, 0, none⟩) 2 [71, 73] :=
  (Kd.R_reads' (R_made (Kd.int .u8) w w.heap.size 5 (Nat.le_refl _) (xs := [71, 73]) (inner := [.int .u8 71, .int .u8 73]) (Reps.one (show Kd.M (Kd.int .u8) _ _ _ (71 : Int) [.int .u8 71] from rfl) (Reps.one (show Kd.M (Kd.int .u8) _ _ _ (73 : Int) [.int .u8 73] from rfl) (Reps.none _ _))) (by decide))).2.2
theorem cell_fr (w : World) (cs : Array Value) (t : TypeId) (fr : Nat × Nat) (a : Addr) : (w.alloc (.cells cs t fr)).cell? a = (w.alloc (.cells cs t (0, 0))).cell? a := by
  by_cases h : a.block = w.heap.size
  · have e1 : (w.alloc (.cells cs t fr)).heap[a.block]? = some (.cells cs t fr) := by rw [h]; show (w.heap.push _)[w.heap.size]? = _; exact Array.getElem?_push_size
    have e2 : (w.alloc (.cells cs t (0, 0))).heap[a.block]? = some (.cells cs t (0, 0)) := by rw [h]; show (w.heap.push _)[w.heap.size]? = _; exact Array.getElem?_push_size
    simp only [World.cell?, e1, e2]
  · have e1 : (w.alloc (.cells cs t fr)).heap[a.block]? = (w.alloc (.cells cs t (0, 0))).heap[a.block]? := by
      show (w.heap.push _)[a.block]? = (w.heap.push _)[a.block]?
      rw [Array.getElem?_push, Array.getElem?_push, if_neg h, if_neg h]
    exact World.cell?_of_block e1
/-- The same where the bytes are shared with a string. -/
theorem gi_Cs (w : World) : Kd.C (Kd.int .u8) (w.alloc (.cells #[.int .u8 71, .int .u8 73] 5 (2, 3))) (some ⟨w.heap.size, 0, none⟩) 2 [71, 73] := by
  obtain ⟨h1, h2, h3⟩ := gi_C w
  refine ⟨h1, h2, fun h => ?_⟩
  obtain ⟨ad, e, k⟩ := h3 h
  refine ⟨ad, e, fun j p hj => ?_⟩
  obtain ⟨c, a1, a2, a3⟩ := k j p hj
  exact ⟨c, a1, a2, fun i u hu => (cell_fr _ _ _ _ _).trans (a3 i u hu)⟩
def sameB (a b : List Int) : Bool := (strOfNums a).toList == (strOfNums b).toList
def preOk (bs : List Int) : Bool := decide (([71, 73] : List Int).length ≤ bs.length) && sameB (bs.take ([71, 73] : List Int).length) [71, 73]
/-- Behind the two bytes. -/
def st0 (bs : List Int) : RSt := (bs.drop 2, false)
/-- The bytes are those of an image that may be. -/
def Goes (bs : List Int) : Prop := ¬ 200000 < bs.length ∧ preOk bs = true ∧ (sCodes (st0 bs)).2 = false ∧ ImgOk (vStructs (st0 bs)) (vCodes (st0 bs)) (vMain (st0 bs)) ∧ sameB (imgB (vStructs (st0 bs)) (vCodes (st0 bs)) (vMain (st0 bs))) bs = true
def ReadI (bs : List Int) (w : World) (e : Ending) (w' : World) : Prop := ∃ (ok : Bool) (v0 v1 : Value) (l0 : List (List Bool)) (l1 : List S53) (a2 : Int),
  e = .returned (.tuple #[.agg #[v0, v1, .int .i64 a2], .bool ok]) ∧ Kd.S (Kd.slice 4 Kd.bool) 55 w' w.heap.size (fun _ => True) v0 l0 ∧ Kd.S k53s 53 w' w.heap.size (fun _ => True) v1 l1 ∧ Below w.heap.size w w' ∧ (ok = true ↔ Goes bs) ∧
  (if ok = true then l0 = vStructs (st0 bs) ∧ l1 = vCodes (st0 bs) ∧ a2 = vMain (st0 bs) else l0 = [] ∧ l1 = [] ∧ a2 = 0)
theorem ReadI.no {bs : List Int} {w w' : World} (hb : Below w.heap.size w w') (hn : ¬ Goes bs) : ReadI bs w (.returned (.tuple #[.agg #[.slice none 0 0, .slice none 0 0, .int .i64 0], .bool false])) w' :=
  ⟨false, _, _, [], [], 0, rfl, Kd.S_nil _ _ _ _ _, Kd.S_nil _ _ _ _ _, hb, ⟨fun h => Bool.noConfusion h, fun h => absurd h hn⟩, rfl, rfl, rfl⟩
def zero30 : Array Value := #[.slice none 0 0, .slice none 0 0, .int .i64 0]
/-- Three stores into a variable of the call's own. -/
theorem three_set {w W : World} {g : Nat} {c0 c1 c2 : Value} (hb : Below w.heap.size w W) (hg : w.heap.size ≤ g) (hx : W.heap[g]? = some (.cells #[c0, c1, c2] 30 (0, 0))) (u0 u1 u2 : Value) :
    Below w.heap.size w (((W.setCell ⟨g, 0, none⟩ u0).setCell ⟨g, 1, none⟩ u1).setCell ⟨g, 2, none⟩ u2) ∧ (((W.setCell ⟨g, 0, none⟩ u0).setCell ⟨g, 1, none⟩ u1).setCell ⟨g, 2, none⟩ u2).heap[g]? = some (.cells #[u0, u1, u2] 30 (0, 0)) :=
  ⟨below_set (below_set (below_set hb hg) hg) hg, by simpa using blk_set (blk_set (blk_set hx 0 u0) 1 u1) 2 u2⟩
theorem three_S {α : Type} {d : Kd α} {e base : Nat} {ok : Nat → Prop} {W : World} {v : Value} {xs : List α} {g : Nat} {c0 c1 c2 : Value} (h : Kd.S d e W base ok v xs) (hx : W.heap[g]? = some (.cells #[c0, c1, c2] 30 (0, 0))) (ht : ∀ q, q ∈ e :: d.E → q ≠ 30) (u0 u1 u2 : Value) :
    Kd.S d e (((W.setCell ⟨g, 0, none⟩ u0).setCell ⟨g, 1, none⟩ u1).setCell ⟨g, 2, none⟩ u2) base ok v xs :=
  Kd.S_set (Kd.S_set (Kd.S_set h hx ht 0 u0) (blk_set hx 0 u0) ht 1 u1) (blk_set (blk_set hx 0 u0) 1 u1) ht 2 u2

def ISt (w : World) (gr g2 g5 : Nat) (hd : List Int) (vh : Value) (a2 : Int) (W : World) (s : RSt) (v0 v1 : Value) (l0 : List (List Bool)) (l1 : List S53) : Prop :=
  Kd.R (Kd.int .i64) 3 W w.heap.size (fun k => k ≠ gr) vh hd ∧ Rdr w W gr s.1 s.2 ∧ W.heap[g2]? = some (.cells #[.slice none 0 0, .slice none 0 0, .int .i64 0] 30 (0, 0)) ∧ W.heap[g5]? = some (.cells #[v0, v1, .int .i64 a2] 30 (0, 0)) ∧ Kd.S (Kd.slice 4 Kd.bool) 55 W w.heap.size (fun k => k ≠ gr) v0 l0 ∧ Kd.S k53s 53 W w.heap.size (fun k => k ≠ gr) v1 l1
theorem ISt.keep {w W W1 : World} {gr g2 g5 : Nat} {hd : List Int} {vh v0 v1 : Value} {a2 : Int} {s s1 : RSt} {l0 : List (List Bool)} {l1 : List S53} (h : ISt w gr g2 g5 hd vh a2 W s v0 v1 l0 l1) (hk : KeepR gr W W1) (hr : Rdr w W1 gr s1.1 s1.2) : ISt w gr g2 g5 hd vh a2 W1 s1 v0 v1 l0 l1 := by
  obtain ⟨h1, h2, h3, h4, h5, h6⟩ := h
  exact ⟨Kd.R_keepR h1 hk (fun _ h => h), hr, (hk.2 _ (blk_lt h3) (h2.ne h3 (by decide))).trans h3, (hk.2 _ (blk_lt h4) (h2.ne h4 (by decide))).trans h4, Kd.S_keepR h5 hk (fun _ h => h), Kd.S_keepR h6 hk (fun _ h => h)⟩
/-- The row of structs has grown, and the image holds the new one. -/
theorem ISt.structs {w W W1 : World} {gr g2 g5 : Nat} {hd : List Int} {vh v0 v1 u : Value} {a2 : Int} {s : RSt} {l0 l0' : List (List Bool)} {l1 : List S53} (h : ISt w gr g2 g5 hd vh a2 W s v0 v1 l0 l1) (hg5 : w.heap.size ≤ g5) (hg2 : g2 ≠ g5) (hb : Below w.heap.size W W1) (hg : W.grownBy W1 v0.ownBlock) (hr : Kd.S (Kd.slice 4 Kd.bool) 55 W1 w.heap.size (fun k => k ≠ gr) u l0') : ISt w gr g2 g5 hd vh a2 (W1.setCell ⟨g5, 0, none⟩ u) s u v1 l0' l1 := by
  obtain ⟨h1, h2, h3, h4, h5, h6⟩ := h
  have e2 : some g2 ≠ v0.ownBlock := Kd.S_ne h5 h3 (by decide)
  have e5 : some g5 ≠ v0.ownBlock := Kd.S_ne h5 h4 (by decide)
  have er : some gr ≠ v0.ownBlock := fun e => (Kd.S_R h5).1 gr e.symm rfl
  have b5 := (hg.block g5 (blk_lt h4) e5).trans h4
  have n5 : g5 ≠ gr := h2.ne h4 (by decide)
  have hx := hg.block gr (by obtain ⟨_, _, h⟩ := h2.has; exact blk_lt h) er
  exact ⟨Kd.R_set (Kd.R_over' h1 (Kd.S_typed h5) (by decide) hg) b5 (by decide) 0 u, (h2.grow hb (Nat.le_refl _) hx).new hg5 n5,
    (Below.heap_setCell W1 ⟨g5, 0, none⟩ u g2 hg2).trans ((hg.block g2 (blk_lt h3) e2).trans h3), by simpa using blk_set b5 0 u, Kd.S_set hr b5 (by decide) 0 u, Kd.S_set (Kd.S_over' h6 (Kd.S_typed h5) (by decide) hg) b5 (by decide) 0 u⟩
/-- The row of codes has grown, and the image holds the new one. -/
theorem ISt.codes {w W W1 : World} {gr g2 g5 : Nat} {hd : List Int} {vh v0 v1 u : Value} {a2 : Int} {s : RSt} {l0 : List (List Bool)} {l1 l1' : List S53} (h : ISt w gr g2 g5 hd vh a2 W s v0 v1 l0 l1) (hg5 : w.heap.size ≤ g5) (hg2 : g2 ≠ g5) (hb : Below w.heap.size W W1) (hg : W.grownBy W1 v1.ownBlock) (hr : Kd.S k53s 53 W1 w.heap.size (fun k => k ≠ gr) u l1') : ISt w gr g2 g5 hd vh a2 (W1.setCell ⟨g5, 1, none⟩ u) s v0 u l0 l1' := by
  obtain ⟨h1, h2, h3, h4, h5, h6⟩ := h
  have e2 : some g2 ≠ v1.ownBlock := Kd.S_ne h6 h3 (by decide)
  have e5 : some g5 ≠ v1.ownBlock := Kd.S_ne h6 h4 (by decide)
  have er : some gr ≠ v1.ownBlock := fun e => (Kd.S_R h6).1 gr e.symm rfl
  have b5 := (hg.block g5 (blk_lt h4) e5).trans h4
  have n5 : g5 ≠ gr := h2.ne h4 (by decide)
  have hx := hg.block gr (by obtain ⟨_, _, h⟩ := h2.has; exact blk_lt h) er
  exact ⟨Kd.R_set (Kd.R_over' h1 (Kd.S_typed h6) (by decide) hg) b5 (by decide) 1 u, (h2.grow hb (Nat.le_refl _) hx).new hg5 n5,
    (Below.heap_setCell W1 ⟨g5, 1, none⟩ u g2 hg2).trans ((hg.block g2 (blk_lt h3) e2).trans h3), by simpa using blk_set b5 1 u, Kd.S_set (Kd.S_over' h5 (Kd.S_typed h6) (by decide) hg) b5 (by decide) 1 u, Kd.S_set hr b5 (by decide) 1 u⟩
/-- The reader and the image as they are made. -/
theorem start_set {w W W' : World} {gr g2 g5 : Nat} {v0 u0 u1 c0 c1 c2 d0 d1 : Value} {b : Bool} {cs2 : Array Value} (hb : Below w.heap.size w W) (hgr : w.heap.size ≤ gr) (hg5 : w.heap.size ≤ g5) (hn : g5 ≠ gr) (h2r : g2 ≠ gr) (h25 : g2 ≠ g5) (hr : W.heap[gr]? = some (.cells #[d0, d1] 74 (0, 0))) (h5 : W.heap[g5]? = some (.cells #[c0, c1, c2] 30 (0, 0))) (h2 : W.heap[g2]? = some (.cells cs2 30 (0, 0))) {u2 : Value}
    (hW : ((((W.setCell ⟨gr, 0, none⟩ v0).setCell ⟨gr, 1, none⟩ (.bool b)).setCell ⟨g5, 0, none⟩ u0).setCell ⟨g5, 1, none⟩ u1).setCell ⟨g5, 2, none⟩ u2 = W') :
    Below w.heap.size w W' ∧ W'.heap[gr]? = some (.cells #[v0, .bool b] 74 (0, 0)) ∧ W'.heap[g5]? = some (.cells #[u0, u1, u2] 30 (0, 0)) ∧ W'.heap[g2]? = some (.cells cs2 30 (0, 0)) := by
  subst hW
  have q1 := blk_set (blk_set hr 0 v0) 1 (.bool b)
  have q2 := blk_far (blk_far (blk_far q1 (p := ⟨g5, 0, none⟩) (Ne.symm hn) u0) (p := ⟨g5, 1, none⟩) (Ne.symm hn) u1) (p := ⟨g5, 2, none⟩) (Ne.symm hn) u2
  have r1 := blk_far (blk_far h5 (p := ⟨gr, 0, none⟩) hn v0) (p := ⟨gr, 1, none⟩) hn (.bool b)
  have r2 := blk_set (blk_set (blk_set r1 0 u0) 1 u1) 2 u2
  have s1 := blk_far (blk_far h2 (p := ⟨gr, 0, none⟩) h2r v0) (p := ⟨gr, 1, none⟩) h2r (.bool b)
  have s2 := blk_far (blk_far (blk_far s1 (p := ⟨g5, 0, none⟩) h25 u0) (p := ⟨g5, 1, none⟩) h25 u1) (p := ⟨g5, 2, none⟩) h25 u2
  exact ⟨below_set (below_set (below_set (below_set (below_set hb hgr) hgr) hg5) hg5) hg5, by simpa using q2, by simpa using r2, s2⟩

end Go.Proofs.Ytkfeoilnhpfknaa.ImFnExactImageRead
