/- Rows of bytes that are a call's own: grown by appends, or just made out of a constant string (such a row is full, and marked one place behind its end). -/
import Derived.Test.YtkfeoilnhpfknaaImfFnExactImageRead
import Derived.ArgAppend
import Derived.Lib.SlBytesConst
namespace Go.Proofs.Ytkfeoilnhpfknaa.ImFnExactImageRead
open Go.RowKit Go.Proofs.Ytkfeoilnhpfknaa.QFnExactImageRead Go.Proofs.YtkfeoilnhpfknaaW.PrintWords Go.Proofs.YtkfeoilnhpfknaaW.PrintLast

/-- The full row made of the constant string "GI". -/
def Fresh (w : World) (base : Nat) (v : Value) (xs : List Int) : Prop := xs.length = 2 ∧ ∃ g, v = .slice (some ⟨g, 0, none⟩) xs.length xs.length ∧ base ≤ g ∧ 0 < xs.length ∧ w.heap[g]? = some (.cells (xs.map (Value.int .u8)).toArray 5 (xs.length, xs.length + 1))
def OwnB (w : World) (base : Nat) (v : Value) (xs : List Int) : Prop := Kd.R (Kd.int .u8) 5 w base (fun _ => True) v xs ∨ Fresh w base v xs

theorem OwnB.long {w : World} {base : Nat} {v : Value} {xs : List Int} (h : OwnB w base v xs) (hl : 2 < xs.length) : Kd.R (Kd.int .u8) 5 w base (fun _ => True) v xs := by
  rcases h with h | ⟨h2, _⟩
  · exact h
  · omega

theorem grown_row {w w' : World} (h : w.grownBy w' none) (row : Option Nat) : w.grownBy w' row := ⟨h.os, h.tape, h.output, h.size, fun k hk _ => h.block k hk (by simp)⟩

theorem append_b {ops : Array Oper} {rest : List Oper} {o : Oper} {a : Act} {Q : Exit → Act → World → Prop} {w0 W : World} (hgd : o.guard = none) (s x : Operand)
    (ho : o.op = .call { callee := .builtin .append, args := #[s, x], argTypes := #[34, 34] }) (v : Value) (xs ys : List Int) (A : Option Addr) (m c : Nat) (hs : a.eval s = v) (hx : a.eval x = .slice A m c)
    (HO : OwnB W w0.heap.size v xs) (HR : Kd.C (Kd.int .u8) W A m ys) (hm : 0 < m) (HB : Below w0.heap.size w0 W) (hl : xs.length + m ≤ 1099511627776)
    (h : ∀ v1 w1, Kd.R (Kd.int .u8) 5 w1 w0.heap.size (fun _ => True) v1 (xs ++ ys) → Below w0.heap.size w0 w1 → W.grownBy w1 v.ownBlock → (v1.ownBlock = v.ownBlock ∨ ∃ b, v1.ownBlock = some b ∧ W.heap.size ≤ b) → wpList Try.prog ops Q rest (a.put o.dst v1) w1) :
    wpList Try.prog ops Q (o :: rest) a W := by
  rcases HO with HO | ⟨_, g, rfl, hg, hp, hb⟩
  · exact Kd.R_append_rows (Kd.int .u8) (w0 := w0) w0.heap.size hgd s x 34 5 (.int .u8 0) 1 ho Try.underlying34 (by kernel_rfl) rfl (by decide) (by omega) v xs ys A m c (fun _ => True) (fun _ => False) hs hx HO HR (fun _ _ h => h) (fun _ h => h.elim) (fun _ _ => trivial) HB HB.size (by omega) h
  · obtain ⟨i, hi, hz⟩ := Option.map_eq_some_iff.1 info5
    simp only [Prod.mk.injEq] at hz
    obtain ⟨z0, z1, z2⟩ := hz
    have hR := Kd.reads_of_C (enc := Value.int .u8) (d := (0 : Int)) (h1 := fun _ => rfl) HR
    obtain ⟨hlen, _, hcl⟩ := hR
    obtain ⟨ad, eA, hc⟩ := hcl hm
    subst eA
    refine wpList_append_grows W hgd s x 34 ho 5 i (.int .u8 0) 1 1 Try.underlying34 hi z0 z1 z2 rfl (by decide) (some ⟨g, 0, none⟩) xs.length xs.length (encs (Value.int .u8) xs) hs (fun e => by cases e) (by rw [encs_length, Nat.mul_one]) ?_ ad m c (encs (Value.int .u8) ys) hx (by rw [encs_length, Nat.mul_one, hlen]) ?_ ?_ (by omega) (by simp only [maxLen]; omega) (by omega) ?_
    · intro b eb j u hj
      cases eb
      rw [add_plain]
      have e : W.cell? ⟨g, j, none⟩ = ((xs.map (Value.int .u8)).toArray)[j]? := by simp [World.cell?, hb]
      rw [e, List.getElem?_toArray]; exact hj
    · intro j u hj
      have hj2 : j < ys.length := by
        have := (List.getElem?_eq_some_iff.1 hj).1
        rwa [encs_length] at this
      have e := hc j (by omega)
      rw [e]
      unfold encs at hj
      rw [List.getElem?_map, List.getElem?_eq_getElem hj2] at hj
      simp only [Option.map_some] at hj
      rw [← hj]
      simp [hj2]
    · intro u hu
      obtain ⟨q, _, rfl⟩ := List.mem_map.1 hu
      rfl
    · intro v' w' hown hgr
      refine h v' w' (Kd.R_of_own (h1 := fun _ => rfl) ?_ (fun _ _ => trivial)) (HB.grown hgr HB.size (by simp)) (grown_row hgr _) ?_
      · rw [List.length_append, encs_append, hlen]; exact own_weaken hown HB.size
      · obtain ⟨g', cap', e', hb', _⟩ := hown.form (by omega)
        exact .inr ⟨g', by rw [e']; rfl, hb'⟩

end Go.Proofs.Ytkfeoilnhpfknaa.ImFnExactImageRead
