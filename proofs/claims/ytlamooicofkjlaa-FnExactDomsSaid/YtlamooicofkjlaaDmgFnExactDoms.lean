/- What (*impl.Fn).before holds while it walks: the blocks ahead of each block. -/
import Derived.Test.YtlamooicofkjlaaDmdFnExactDoms
namespace Go.Proofs.Ytlamooicofkjlaa.DmFnExactDoms
open Go.RowKit Go.Proofs.Ytlamooicofkjlaa.QFnExactDoms Go.Proofs.YtlamooicofkjlaaW.PrintWords Go.Proofs.YtlamooicofkjlaaW.PrintLast Go.Proofs.YtlamooicofkjlaaW.PrintMore Go.Proofs.Ytlamooicofkjlaa.SrFnExactDoms
set_option linter.unusedVariables false

abbrev kLI : Kd (List Int) := Kd.slice 3 (Kd.int .i64)
def Own (u : Value) (k : Nat) : Prop := some k = u.ownBlock
/-- Row i, lent: what is appended to it is laid back. -/
theorem lendI {W : World} {base g n cap : Nat} {xs : List (List Int)} (h : Kd.S kLI 30 W base (fun _ => True) (.slice (some ⟨g, 0, none⟩) n cap) xs) (i : Nat) (hi : i < n) :
    ∃ u, W.cell? ⟨g, i, none⟩ = some u ∧ W.frozen? ⟨g, i, none⟩ = false ∧ Kd.R (Kd.int .i64) 3 W base (fun _ => True) u (xs.getD i []) ∧
      ∀ W1 u1 ys, W.grownBy W1 u.ownBlock → Kd.R (Kd.int .i64) 3 W1 base (fun _ => True) u1 ys → (u1.ownBlock = u.ownBlock ∨ ∃ b, u1.ownBlock = some b ∧ W.heap.size ≤ b) →
        Kd.S kLI 30 (W1.setCell ⟨g, i, none⟩ u1) base (fun _ => True) (.slice (some ⟨g, 0, none⟩) n cap) (xs.set i ys) ∧ W1.grownBy (W1.setCell ⟨g, i, none⟩ u1) (some g) := by
  have hb := Kd.S_mono (Kd.S_bound h) (ok' := fun k => k < W.heap.size) (fun k hk => hk.2.2.1)
  have hgs : g < W.heap.size := Kd.S_lt h g rfl
  obtain ⟨oki, c, hcl, hM, hcc, hfr, hoki, hH⟩ := Kd.S_elem hb [] (i : Int) (by omega) (by omega)
  rw [Int.toNat_natCast] at hM hcc hfr
  obtain ⟨u, rfl, hR⟩ := hM
  have hz := hcc 0 u rfl
  have hf := hfr 0
  have e1 : i * (kLI).sz + 0 = i := by show i * 1 + 0 = i; omega
  rw [e1] at hz hf
  refine ⟨u, hz, hf, Kd.R_mono hR (fun _ _ => trivial), fun W1 u1 ys hg hR1 hat => ?_⟩
  have hH1 := Kd.H_grown hH hg (fun k e => hR.1 k e)
  have hR2 := Kd.R_tight rfl hR1
  rcases hat with e | ⟨b, e, hbl⟩
  · have hH2 := Kd.H_mono hH1 (ok' := fun k => True ∧ ¬ False) (fun _ _ => ⟨trivial, id⟩)
    have hs := Kd.S_seg (okg := fun _ => False) (ok := fun _ => True) hH2 (by omega) (by omega) (seg := [u1]) (j := 0) (show 0 + 1 ≤ 1 by decide) (x' := ys) (okp := fun k => some k = u1.ownBlock) ⟨u1, rfl, hR2⟩ (fun k hk => .inl (hR.1 k (by rw [← e]; exact hk.symm))) (fun _ hk => hk.elim)
    rw [Int.toNat_natCast] at hs
    have e2 : i * (kLI).sz + 0 = i := e1
    rw [e2] at hs
    exact hs
  · have hH2 := Kd.H_mono hH1 (ok' := fun k => True ∧ ¬ some k = u1.ownBlock) (fun k hk => ⟨trivial, fun e3 => by rw [e] at e3; injection e3 with e3; omega⟩)
    have hs := Kd.S_seg (okg := fun k => some k = u1.ownBlock) (ok := fun _ => True) hH2 (by omega) (by omega) (seg := [u1]) (j := 0) (show 0 + 1 ≤ 1 by decide) (x' := ys) (okp := fun k => some k = u1.ownBlock) ⟨u1, rfl, hR2⟩ (fun k hk => .inr hk) (fun k hk => ⟨trivial, fun e3 => by rw [e] at hk; injection hk with hk; omega⟩)
    rw [Int.toNat_natCast] at hs
    have e2 : i * (kLI).sz + 0 = i := e1
    rw [e2] at hs
    exact hs

/-- The blocks that lead to each, so far. -/
structure PInv (B : List S70) (P : List (List Nat)) (i k : Nat) : Prop where
  len : P.length = B.length
  mem : ∀ v, v < B.length → ∀ u, u ∈ P.getD v [] ↔ (u < i ∧ v ∈ E B u) ∨ (u = i ∧ v ∈ (E B i).take k)
  sz : ∀ v, (P.getD v []).length ≤ i * 2097152 + k
theorem PInv.start (B : List S70) : PInv B (List.replicate B.length []) 0 0 where
  len := by simp
  mem := fun v hv u => by simp [List.getD_eq_getElem?_getD, hv]
  sz := fun v => by
    simp only [List.getD_eq_getElem?_getD, List.getElem?_replicate]
    split <;> simp
theorem PInv.add {B : List S70} {P : List (List Nat)} {i k y : Nat} (h : PInv B P i k) (hk : (E B i)[k]? = some y) (hy : y < B.length) : PInv B (P.set y (P.getD y [] ++ [i])) i (k + 1) where
  len := by simp [h.len]
  mem := fun v hv u => by
    have ht : (E B i).take (k + 1) = (E B i).take k ++ [y] := by rw [List.take_add_one, hk]; rfl
    rw [ht]
    have hm := h.mem v hv u
    simp only [List.getD_eq_getElem?_getD, List.getElem?_set] at *
    by_cases e : y = v
    · subst e
      rw [if_pos rfl, if_pos (by rw [h.len]; exact hy)]
      simp only [Option.getD_some, List.mem_append, List.mem_singleton]
      rw [hm]
      constructor
      · rintro ((h1 | h1) | h1)
        · exact .inl h1
        · exact .inr ⟨h1.1, .inl h1.2⟩
        · exact .inr ⟨h1, .inr trivial⟩
      · rintro (h1 | ⟨h1, h2 | h2⟩)
        · exact .inl (.inl h1)
        · exact .inl (.inr ⟨h1, h2⟩)
        · exact .inr h1
    · rw [if_neg e, hm]
      simp only [List.mem_append, List.mem_singleton]
      constructor
      · rintro (h1 | h1)
        · exact .inl h1
        · exact .inr ⟨h1.1, .inl h1.2⟩
      · rintro (h1 | ⟨h1, h2 | h2⟩)
        · exact .inl h1
        · exact .inr ⟨h1, h2⟩
        · exact absurd h2.symm e
  sz := fun v => by
    have hs := h.sz v
    have hs2 := h.sz y
    simp only [List.getD_eq_getElem?_getD, List.getElem?_set] at *
    by_cases e : y = v
    · subst e
      rw [if_pos rfl, if_pos (by rw [h.len]; exact hy)]
      simp only [Option.getD_some, List.length_append, List.length_singleton]
      omega
    · rw [if_neg e]; omega
theorem PInv.up {B : List S70} {P : List (List Nat)} {i k : Nat} (h : PInv B P i k) (hk : k = (E B i).length) (hs : (E B i).length ≤ 2097152) : PInv B P (i + 1) 0 where
  len := h.len
  mem := fun v hv u => by
    rw [h.mem v hv u, hk, List.take_length]
    simp only [List.take_zero, List.not_mem_nil, and_false, or_false]
    constructor
    · rintro (h1 | ⟨rfl, h1⟩)
      · exact ⟨by omega, h1.2⟩
      · exact ⟨by omega, h1⟩
    · rintro ⟨h1, h2⟩
      by_cases e : u = i
      · subst e; exact .inr ⟨rfl, h2⟩
      · exact .inl ⟨by omega, h2⟩
  sz := fun v => by
    have h1 := h.sz v
    have h2 : (i + 1) * 2097152 = i * 2097152 + 2097152 := Nat.succ_mul _ _
    rw [h2, Nat.add_zero]
    exact Nat.le_trans h1 (Nat.add_le_add_left (by rw [hk]; exact hs) _)
/-- The blocks that lead to each. -/
def Pre (B : List S70) (P : List (List Nat)) : Prop := P.length = B.length ∧ (∀ v, v < B.length → ∀ u, u ∈ P.getD v [] ↔ u < B.length ∧ v ∈ E B u) ∧ ∀ v, (P.getD v []).length ≤ 838860800
theorem PInv.done {B : List S70} {P : List (List Nat)} (h : PInv B P B.length 0) (hn : B.length ≤ 400) : Pre B P := by
  refine ⟨h.len, fun v hv u => ?_, fun v => ?_⟩
  · have h1 := h.mem v hv u
    rw [List.take_zero] at h1
    rw [h1]
    exact ⟨fun h2 => h2.elim id (fun h3 => by cases h3.2), fun h2 => .inl h2⟩
  · have h1 := h.sz v
    have h2 : B.length * 2097152 ≤ 400 * 2097152 := Nat.mul_le_mul_right _ hn
    rw [Nat.add_zero] at h1
    exact Nat.le_trans h1 h2
def prow (P : List (List Nat)) : List (List Int) := P.map ints
theorem prow_get (P : List (List Nat)) (v : Nat) : (prow P).getD v [] = ints (P.getD v []) := by
  unfold prow
  simp only [List.getD_eq_getElem?_getD, List.getElem?_map]
  cases P[v]? <;> rfl
theorem prow_set (P : List (List Nat)) (v i : Nat) : (prow P).set v (ints (P.getD v []) ++ [(i : Int)]) = prow (P.set v (P.getD v [] ++ [i])) := by
  unfold prow
  rw [List.map_set]
  congr 1
  unfold ints
  rw [List.map_append]; rfl
theorem ints_len (l : List Nat) : (ints l).length = l.length := by unfold ints; exact List.length_map ..
theorem prow_len (P : List (List Nat)) : (prow P).length = P.length := by unfold prow; exact List.length_map ..
