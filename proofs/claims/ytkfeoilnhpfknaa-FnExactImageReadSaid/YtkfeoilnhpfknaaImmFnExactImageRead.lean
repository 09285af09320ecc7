/- An append of a list just made onto an own row of bytes, as one step of a region that draws its order. -/
import Derived.Test.YtkfeoilnhpfknaaImlFnExactImageRead
namespace Go.Proofs.Ytkfeoilnhpfknaa.ImFnExactImageRead
open Go.RowKit Go.Proofs.Ytkfeoilnhpfknaa.QFnExactImageRead Go.Proofs.YtkfeoilnhpfknaaW.PrintWords Go.Proofs.YtkfeoilnhpfknaaW.PrintLast

theorem lit_B (W : World) (l : List Int) (fr : Nat × Nat) (hl : l.length ≤ 68719476736) : Kd.C (Kd.int .u8) (W.alloc (.cells (l.map (Value.int .u8)).toArray 5 fr)) (some ⟨W.heap.size, 0, none⟩) l.length l := by
  refine Kd.C_of_reads (enc := Value.int .u8) (d := (0 : Int)) (h1 := fun _ => rfl) ⟨rfl, by omega, fun _ => ⟨_, rfl, fun j hj => ?_⟩⟩
  rw [add_plain]
  have e := World.cell?_alloc_mark W (l.map (Value.int .u8)).toArray 5 fr j
  rw [e, List.getElem?_toArray]
  exact encs_get (enc := Value.int .u8) (d := (0 : Int)) l j hj

theorem Frame.blk {w w' : World} {base : Nat} {v : Value} {xs : List Int} (h : Frame w w' v) (hO : OwnB w base v xs) {k t : Nat} {cs : Array Value} (hb : w.heap[k]? = some (.cells cs t (0, 0))) (h5 : 5 ≠ t) : w'.heap[k]? = some (.cells cs t (0, 0)) := by
  rw [h.2 k (blk_lt hb) (hO.far hb h5)]
  exact hb
theorem Frame.of_alloc {w w' : World} {v : Value} {o : Obj} (h : Frame (w.alloc o) w' v) : Frame w w' v := by
  have hba : Below w.heap.size w (w.alloc o) := below_alloc (Below.refl _ _) _
  exact ⟨Nat.le_trans hba.size h.1, fun k hk hv => (h.2 k (Nat.lt_of_lt_of_le hk hba.size) hv).trans (hba.block k hk)⟩

theorem app_step {ops : Array Oper} {o : Oper} {a : Act} {Kc : Act → World → Prop} {Q : Exit → Act → World → Prop} (hw : Region.wanted o (yielded ops a.tmps) = true) (s x : Operand)
    (ho : o.op = .call { callee := .builtin .append, args := #[s, x], argTypes := #[34, 34] }) (w0 W : World) (v : Value) (xs ys : List Int) (fr : Nat × Nat)
    (hs : a.eval s = v) (hx : a.eval x = .slice (some ⟨W.heap.size, 0, none⟩) ys.length ys.length)
    (hO : OwnB W w0.heap.size v xs) (h2 : 2 < xs.length) (hB : Below w0.heap.size w0 W) (hl : xs.length + ys.length ≤ 68719476736)
    (h : ∀ v1 w1, OwnB w1 w0.heap.size v1 (xs ++ ys) → Below w0.heap.size w0 w1 → Frame W w1 v → NewOr W v v1 → Kc (a.put o.dst v1) w1) :
    if Region.wanted o (yielded ops a.tmps) = true then Oper.wp Try.prog o a (W.alloc (.cells (ys.map (Value.int .u8)).toArray 5 fr)) Kc Q else Kc (a.put o.dst undef) (W.alloc (.cells (ys.map (Value.int .u8)).toArray 5 fr)) := by
  have hba : Below W.heap.size W (W.alloc (.cells (ys.map (Value.int .u8)).toArray 5 fr)) := below_alloc (Below.refl _ _) _
  have hO2 := (hO.below hba).long h2
  have hB2 := below_step hB hba
  have hR := (lit_B W ys fr (by omega))
  refine Kd.R_append_rows_step (Kd.int .u8) (w0 := w0) w0.heap.size hw s x 34 5 (.int .u8 0) 1 ho Try.underlying34 (by kernel_rfl) rfl (by decide) (by omega) v xs ys (some ⟨W.heap.size, 0, none⟩) ys.length ys.length (fun _ => True) (fun _ => False) hs hx hO2 hR (fun _ _ h => h) (fun _ h => h.elim) (fun _ _ => trivial) hB2 hB2.size (by omega) ?_
  intro v1 w1 h1 hb hg hat
  refine h v1 w1 (.inl h1) hb (Frame.of_alloc ⟨hg.size, fun k hk hv => hg.block k hk hv⟩) ?_
  rcases hat with e | ⟨b, e, hb2⟩
  · exact .inl e
  · exact .inr ⟨b, e, Nat.le_trans hba.size hb2⟩

theorem OwnB.ge {w : World} {base : Nat} {v : Value} {xs : List Int} (h : OwnB w base v xs) : ∀ k, v.ownBlock = some k → base ≤ k := by
  rcases h with h | ⟨_, g, rfl, h1, _, _⟩
  · intro k e
    obtain ⟨_, inner, hown, _⟩ := h
    rcases hown.2 with ⟨e0, _⟩ | ⟨g, cap, cur, hv, hb, _⟩
    · rw [e0] at e; cases e
    · rw [hv] at e
      have e2 : g = k := by injection e
      omega
  · intro k e
    have e2 : g = k := by injection e
    omega

/-- What a store of the new row into the box leaves. -/
theorem Out.set {w w' : World} {gb : Nat} {v v1 : Value} {ys : List Int} (hg : w.heap.size ≤ gb) (hX : w'.heap[gb]? = some (.cells #[v] 34 (0, 0))) (hO : OwnB w' w.heap.size v1 ys) (hB : Below w.heap.size w w') : Out w (w'.setCell ⟨gb, 0, none⟩ v1) gb ys :=
  ⟨v1, by simpa using blk_set hX 0 v1, hO.set hX 0 v1, below_set hB hg⟩

theorem Out.below {w w' : World} {gb : Nat} {ys : List Int} (h : Out w w' gb ys) : Below w.heap.size w w' := by
  obtain ⟨_, _, _, h⟩ := h
  exact h
theorem Out.grow {w w' w1 : World} {gb : Nat} {ys : List Int} (h : Out w w' gb ys) (hb : Below w'.heap.size w' w1) : Out w w1 gb ys := by
  obtain ⟨v, h1, h2, h3⟩ := h
  exact ⟨v, blk_below h1 hb, h2.below hb, below_step h3 hb⟩
theorem Out.open {w w' : World} {gb : Nat} {ys : List Int} (h : Out w w' gb ys) : ∃ A n c, w'.heap[gb]? = some (.cells #[.slice A n c] 34 (0, 0)) ∧ OwnB w' w.heap.size (.slice A n c) ys ∧ Below w.heap.size w w' := by
  obtain ⟨v, h1, h2, h3⟩ := h
  obtain ⟨A, n, c, rfl⟩ := h2.any
  exact ⟨A, n, c, h1, h2, h3⟩
theorem flat_count {α : Type} (l : List α) (f : α → List Int) (_n : Nat) (h : ∀ x, 1 ≤ (f x).length) : l.length ≤ (l.flatMap f).length := by
  induction l with
  | nil => simp
  | cons x l ih => rw [List.flatMap_cons, List.length_append, List.length_cons]; have := h x; omega
theorem blk_apart {w : World} {k j t u : Nat} {cs ds : Array Value} (h : w.heap[k]? = some (.cells cs t (0, 0))) (h2 : w.heap[j]? = some (.cells ds u (0, 0))) (ht : t ≠ u) : k ≠ j := by
  rintro rfl
  rw [h] at h2
  injection h2 with h2
  injection h2 with _ h3
  exact ht h3
theorem cell_far (w : World) {gb k : Nat} (h : k ≠ gb) (v : Value) (j : Nat) : (w.setCell ⟨gb, 0, none⟩ v).cell? ⟨k, j, none⟩ = w.cell? ⟨k, j, none⟩ :=
  World.cell?_of_block (Below.heap_setCell w ⟨gb, 0, none⟩ v k h)
theorem five {w : World} {k t : Nat} {a b c d e : Value} (h : w.heap[k]? = some (.cells #[a, b, c, d, e] t (0, 0))) : w.cell? ⟨k, 0, none⟩ = some a ∧ w.cell? ⟨k, 1, none⟩ = some b ∧ w.cell? ⟨k, 2, none⟩ = some c ∧ w.cell? ⟨k, 3, none⟩ = some d ∧ w.cell? ⟨k, 4, none⟩ = some e :=
  ⟨(blk_cell h 0).trans rfl, (blk_cell h 1).trans rfl, (blk_cell h 2).trans rfl, (blk_cell h 3).trans rfl, (blk_cell h 4).trans rfl⟩
theorem flat_drop {α : Type} (l : List α) (f : α → List Int) : (l.take l.length).flatMap f = l.flatMap f := by rw [List.take_length]
theorem map_succ (l : List Bool) {i : Nat} (h : i < l.length) : (l.take (i + 1)).map boolI = (l.take i).map boolI ++ [boolI (rdOf false l i)] := by
  rw [take_succ_d l false h, List.map_append]
  rfl

end Go.Proofs.Ytkfeoilnhpfknaa.ImFnExactImageRead
