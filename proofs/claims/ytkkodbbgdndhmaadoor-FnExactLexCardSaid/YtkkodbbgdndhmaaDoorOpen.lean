/- What can be read as data of a Go type is a value of the kind that the printed contracts speak of: kind by kind, and for a struct field by field. -/
import Derived.Test.YtkkodbbgdndhmaaDoorWAll
import Derived.ChangeArms
import Derived.WideShapes
namespace Go.Proofs.YtkkodbbgdndhmaaDoor.Open
open Go.RowKit Go.Proofs.YtkkodbbgdndhmaaDoorW.PrintWords

/-- Cells that read as data of the type t are of the kind d, and what they hold meets F. -/
def Opens {α : Type} (P : Program) (t : TypeId) (d : Kd α) (F : α → Prop) : Prop :=
  ∀ (H : Type) (enc : TypeId × Value → H) (w : World) (fuel : Nat) (cs : List Value) (x : DataW H × List MemPlace),
    DataW.trod enc P w 0 (fun _ => true) true fuel t cs = some x → ∃ y, d.K w y cs ∧ F y

section
variable {P : Program}

theorem Opens.int {t : TypeId} {k : IntKind} (ht : P.underlying t = some (.int k)) : Opens P t (Kd.int k) (fun n => (Lit.int k n).wf = true) := by
  intro H enc w fuel cs x h
  obtain ⟨n, rfl, _, hw⟩ := DataW.trod_int ht h
  exact ⟨n, rfl, hw⟩

theorem Opens.bool {t : TypeId} (ht : P.underlying t = some .bool) : Opens P t Kd.bool (fun _ => True) := by
  intro H enc w fuel cs x h
  obtain ⟨b, rfl, _⟩ := DataW.trod_bool ht h
  exact ⟨b, rfl, trivial⟩

theorem each_some {α : Type} {Q : Nat → α → Prop} (n : Nat) (h : ∀ i, i < n → ∃ x, Q i x) : ∃ xs : List α, xs.length = n ∧ ∀ i x, xs[i]? = some x → Q i x := by
  induction n with
  | zero => exact ⟨[], rfl, fun i x hx => by simp at hx⟩
  | succ n ih =>
    obtain ⟨xs, hl, hx⟩ := ih fun i hi => h i (by omega)
    obtain ⟨x, hq⟩ := h n (by omega)
    refine ⟨xs ++ [x], by simp [hl], fun i y hy => ?_⟩
    rcases Nat.lt_or_ge i n with c | c
    · rw [List.getElem?_append_left (by omega)] at hy
      exact hx i y hy
    · rw [List.getElem?_append_right (by omega)] at hy
      by_cases e : i = n
      · subst e
        rw [hl, Nat.sub_self] at hy
        simp at hy
        subst hy; exact hq
      · rw [List.getElem?_eq_none (by simp; omega)] at hy
        cases hy

theorem add_add (a : Addr) (i j : Nat) : (a.add i).add j = a.add (i + j) := by
  unfold Addr.add
  by_cases hi : i = 0
  · subst hi; simp
  · by_cases hj : j = 0
    · subst hj; simp [hi]
    · simp [hi, hj, Nat.add_assoc]

theorem Opens.slice {α : Type} {t e : TypeId} {d : Kd α} {F : α → Prop} (q : Nat) (ht : P.underlying t = some (.slice e)) (hc : P.cellsOf e = d.sz) (he : Opens P e d F) :
    Opens P t (Kd.slice q d) (fun xs => xs.length ≤ maxLen ∧ ∀ x ∈ xs, F x) := by
  intro H enc w fuel cs x h
  rcases DataW.trod_slice ht h with ⟨rfl, _⟩ | ⟨a, len, cap, elems, rest, n, _, rfl, _, _, hl, hm, hen, hel, _⟩
  · exact ⟨[], ⟨none, 0, rfl, Nat.le_refl _, rfl, by simp, fun h0 => by simp at h0⟩, by simp, fun x hx => by simp at hx⟩
  · have hx : ∀ i, i < len → ∃ y : α, F y ∧ ∃ c : List Value, c.length = d.sz ∧ d.K w y c ∧ ∀ j u, c[j]? = some u → w.cell? (a.add (i * d.sz + j)) = some u := by
      intro i hi
      have h1 := hel i hi
      rw [List.getElem?_eq_getElem (by omega)] at h1
      obtain ⟨c, hc1, hc2⟩ := Option.bind_eq_some_iff.1 h1
      obtain ⟨_, hcl, hcell⟩ := World.cells?_some hc1
      obtain ⟨y, hy, hF⟩ := he H enc w _ _ _ hc2
      rw [hc] at hcl hcell
      refine ⟨y, hF, c, hcl, hy, fun j u hu => ?_⟩
      have hj : j < c.length := (List.getElem?_eq_some_iff.1 hu).1
      have := hcell j (by omega)
      rw [add_add] at this
      rw [this, hu]
    obtain ⟨xs, hxl, hxs⟩ := each_some len hx
    refine ⟨xs, ⟨some a, cap, by rw [hxl], by omega, rfl, ?_, fun _ => ⟨a, rfl, fun j p hp => (hxs j p hp).2⟩⟩, by omega, ?_⟩
    · unfold maxLen at hm; omega
    · intro x hm
      obtain ⟨i, hi, rfl⟩ := List.getElem_of_mem hm
      exact (hxs i _ (List.getElem?_eq_getElem hi)).1

/-- The fields from the offset 'off' on, to the struct's end. -/
def OpensF {α : Type} (P : Program) (fs : List Field) (off : Nat) (d : Kd α) (F : α → Prop) : Prop :=
  ∀ (H : Type) (enc : TypeId × Value → H) (w : World) (fuel : Nat) (cs : List Value), cs.length = off + d.sz →
    (∀ f ∈ fs, ∃ x, DataW.trod enc P w 0 (fun _ => true) true fuel f.type ((cs.drop f.offset).take (P.cellsOf f.type)) = some x) →
    ∃ y, d.K w y (cs.drop off) ∧ F y

theorem OpensF.one {α : Type} {f : Field} {off : Nat} {d : Kd α} {F : α → Prop} (ho : f.offset = off) (hc : P.cellsOf f.type = d.sz) (h : Opens P f.type d F) : OpensF P [f] off d F := by
  intro H enc w fuel cs hl hx
  obtain ⟨x, hx⟩ := hx f (by simp)
  rw [ho, hc, List.take_of_length_le (by simp; omega)] at hx
  exact h H enc w _ _ _ hx

theorem OpensF.cons {α β : Type} {f : Field} {fs : List Field} {off : Nat} {d : Kd α} {c : Kd β} {F : α → Prop} {G : β → Prop} (ho : f.offset = off) (hc : P.cellsOf f.type = d.sz) (h : Opens P f.type d F)
    (k : OpensF P fs (off + d.sz) c G) : OpensF P (f :: fs) off (Kd.pair d c) (fun x => F x.1 ∧ G x.2) := by
  intro H enc w fuel cs hl hx
  have hs : (Kd.pair d c).sz = d.sz + c.sz := rfl
  obtain ⟨x, hx0⟩ := hx f (by simp)
  rw [ho, hc] at hx0
  obtain ⟨y, hy, hF⟩ := h H enc w _ _ _ hx0
  obtain ⟨z, hz, hG⟩ := k H enc w fuel cs (by omega) (fun g hg => hx g (List.mem_cons_of_mem _ hg))
  refine ⟨(y, z), ⟨_, _, ?_, hy, hz⟩, hF, hG⟩
  rw [← List.drop_drop, List.take_append_drop]

theorem Opens.struct {α : Type} {t : TypeId} {fs : Array Field} {d : Kd α} {F : α → Prop} (ht : P.underlying t = some (.struct fs)) (hc : P.cellsOf t = d.sz) (h : OpensF P fs.toList 0 d F) : Opens P t d F := by
  intro H enc w fuel cs x hx
  obtain ⟨xs, n, _, _, hl, hn, hf⟩ := DataW.trod_struct ht hx
  have := h H enc w n cs (by omega) fun f hm => by
    obtain ⟨i, hi, e⟩ := List.getElem_of_mem hm
    have hi' : i < fs.size := by simpa using hi
    have e' : fs[i]? = some f := by rw [Array.getElem?_eq_getElem hi', ← e]; rfl
    have := hf i f e'
    rw [List.getElem?_eq_getElem (by omega)] at this
    exact ⟨_, this⟩
  simpa using this

theorem Opens.iso {α β : Type} {t : TypeId} {d : Kd α} {F : α → Prop} {f : β → α} (g : α → β) (hg : ∀ y, f (g y) = y) (h : Opens P t d F) : Opens P t (Kd.iso d f) (fun x => F (f x)) := by
  intro H enc w fuel cs x hx
  obtain ⟨y, hy, hF⟩ := h H enc w fuel cs x hx
  exact ⟨g y, by show d.K w (f (g y)) cs; rw [hg]; exact hy, by show F (f (g y)); rw [hg]; exact hF⟩
end
end Go.Proofs.YtkkodbbgdndhmaaDoor.Open
