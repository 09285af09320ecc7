/- The contract of 'put' at a list that was just made. -/
import Derived.Test.YtkfeoilnhpfknaaImiFnExactImageRead
namespace Go.Proofs.Ytkfeoilnhpfknaa.ImFnExactImageRead
open Go.RowKit Go.Proofs.Ytkfeoilnhpfknaa.QFnExactImageRead Go.Proofs.YtkfeoilnhpfknaaW.PrintWords Go.Proofs.YtkfeoilnhpfknaaW.PrintLast

theorem lit_C (W : World) (l : List Int) (fr : Nat × Nat) (hl : l.length ≤ 68719476736) : Kd.C (Kd.int .i64) (W.alloc (.cells (l.map (Value.int .i64)).toArray 3 fr)) (some ⟨W.heap.size, 0, none⟩) l.length l := by
  refine Kd.C_of_reads (enc := Value.int .i64) (d := (0 : Int)) (h1 := fun _ => rfl) ⟨rfl, by omega, fun _ => ⟨_, rfl, fun j hj => ?_⟩⟩
  rw [add_plain]
  have e := World.cell?_alloc_mark W (l.map (Value.int .i64)).toArray 3 fr j
  rw [e, List.getElem?_toArray]
  exact encs_get (enc := Value.int .i64) (d := (0 : Int)) l j hj

theorem OwnB.lt {w : World} {base : Nat} {v : Value} {xs : List Int} (h : OwnB w base v xs) : ∀ k, v.ownBlock = some k → k < w.heap.size := by
  rcases h with h | ⟨_, g, rfl, _, _, h3⟩
  · exact Kd.R_lt h
  · intro k e
    have e2 : g = k := by injection e
    subst e2
    exact blk_lt h3

theorem put_lit (w0 : World) (l : List Int) (gb : Nat) (v : Value) (xs : List Int) (W : World) (fr : Nat × Nat) (hB : Below w0.heap.size w0 W) (hgb : w0.heap.size ≤ gb)
    (hx : W.heap[gb]? = some (.cells #[v] 34 (0, 0))) (hO : OwnB W w0.heap.size v xs) (hl : l.length ≤ 68719476736) (hxs : xs.length ≤ 137438953472) :
    Calls Try.prog 57 #[.slice (some ⟨W.heap.size, 0, none⟩) l.length l.length, .pointer (some ⟨gb, 0, none⟩)] (W.alloc (.cells (l.map (Value.int .i64)).toArray 3 fr)) (Puts w0 W v gb (xs ++ putB l)) := by
  have hba : Below W.heap.size W (W.alloc (.cells (l.map (Value.int .i64)).toArray 3 fr)) := below_alloc (Below.refl _ _) _
  refine (put_c w0 (some ⟨W.heap.size, 0, none⟩) l.length l gb v xs _ (below_step hB hba) hgb (lit_C W l fr hl) (fun ad e _ => ?_) (blk_below hx hba) (hO.below hba) hl hxs).mono ?_
  · cases e
    refine ⟨fun e => ?_, fun e => ?_⟩
    · have := blk_lt hx
      have e3 : W.heap.size = gb := e
      omega
    · have h3 : W.heap.size < W.heap.size := hO.lt _ e.symm
      exact Nat.lt_irrefl _ h3
  · rintro e w' ⟨v1, h1, h2, h3, h4, h5, h6⟩
    refine ⟨v1, h1, h2, h3, h4, ⟨Nat.le_trans hba.size h5.1, fun k hk hv hg => ?_⟩, ?_⟩
    · exact (h5.2 k (Nat.lt_of_lt_of_le hk hba.size) hv hg).trans (hba.block k hk)
    · rcases h6 with h6 | ⟨b, h6, h7⟩
      · exact .inl h6
      · exact .inr ⟨b, h6, Nat.le_trans hba.size h7⟩

end Go.Proofs.Ytkfeoilnhpfknaa.ImFnExactImageRead
