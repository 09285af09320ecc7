/- impl.nextToken: what it answers; what holds behind its call of pieceOf. -/
import Derived.Test.YtkkodbbgdndhmaaDoorTkvFnExactLex
import Derived.Test.YtkkodbbgdndhmaaDoorLexDFnExactLex
namespace Go.Proofs.YtkkodbbgdndhmaaDoor.LxFnExactLex
open Go.RowKit Go.Proofs.YtkkodbbgdndhmaaDoor.QFnExactLex Go.Proofs.YtkkodbbgdndhmaaDoorW.PrintWords Go.Proofs.YtkkodbbgdndhmaaDoorW.PrintLast Go.Proofs.YtkkodbbgdndhmaaDoor.LexA Go.Proofs.YtkkodbbgdndhmaaDoor.Fw
set_option linter.unusedVariables false

def NextV (l : List Int) (w : World) (e : Ending) (w' : World) : Prop := ∃ (t : S34) (v3 : Value) (n : Nat), e = .returned (.tuple #[.agg #[.int .i64 t.f0, .int .i64 t.f1, .int .i64 t.f2, v3], .int .i64 n]) ∧ Txt w' v3 t.f3 ∧ (∀ k, Own v3 k → w.heap.size ≤ k) ∧ Below w.heap.size w w' ∧ (0 < n → Next l t n) ∧ (n = 0 → NoNext l)
theorem tail_facts {w w1 w2 w3 w4 : World} {gb g5 : Nat} {t : S34} {Av : Option Addr} {cv : Nat} (hB : Below w.heap.size w w1) (hG : w.heap.size ≤ gb) (hX : w1.heap[gb]? = some (.cells #[.int .i64 0, .int .i64 0, .int .i64 0, .slice none 0 0] 34 (0, 0))) (hB2 : Below w1.heap.size w1 w2) (hB3 : Below w2.heap.size w2 w3) (hG5 : g5 = w2.heap.size) (hX5 : w3.heap[g5]? = some (.cells #[.int .i64 0, .int .i64 0, .int .i64 0, .slice none 0 0] 34 (0, 0))) (hR : Kd.R (Kd.int .u8) 5 w2 w1.heap.size (fun _ => True) (.slice Av t.f3.length cv) t.f3)
    (hW : w4 = (((w3.setCell ⟨g5, 0, none⟩ (.int .i64 t.f0)).setCell ⟨g5, 1, none⟩ (.int .i64 t.f1)).setCell ⟨g5, 2, none⟩ (.int .i64 t.f2)).setCell ⟨g5, 3, none⟩ (.slice Av t.f3.length cv)) :
    w4.heap[g5]? = some (.cells #[.int .i64 t.f0, .int .i64 t.f1, .int .i64 t.f2, .slice Av t.f3.length cv] 34 (0, 0)) ∧ w4.heap[gb]? = some (.cells #[.int .i64 0, .int .i64 0, .int .i64 0, .slice none 0 0] 34 (0, 0)) ∧ Below w.heap.size w w4 ∧ Kd.R (Kd.int .u8) 5 w4 w.heap.size (fun k => k ≠ gb) (.slice Av t.f3.length cv) t.f3 := by
  have hlt := blk_lt hX
  have hs := hB2.size
  have hne : gb ≠ g5 := by rw [hG5]; omega
  rw [hW]
  refine ⟨set4 hX5 _ _ _ _, ?_, ?_, ?_⟩
  · rw [far4 _ g5 _ _ _ _ gb hne]; exact blk_below (blk_below hX hB2) hB3
  · have h := below_step (below_step hB hB2) hB3
    have h2 : w.heap.size ≤ g5 := by rw [hG5]; exact (below_step hB hB2).size
    exact below_set (below_set (below_set (below_set h h2) h2) h2) h2
  · have h1 := Kd.R_mono (Kd.R_bound hR) (ok' := fun k => k ≠ gb ∧ k ≠ g5) (fun k hk => by
      have a := hk.2.1
      have b := hk.2.2
      rw [hG5]
      omega)
    have h2 := Kd.R_below h1 hB3
    exact Kd.R_lower (Kd.R_mono (Kd.R_move h2 (fun k hk => far4 _ g5 _ _ _ _ k hk.2)) (fun k hk => hk.1)) hB.size
theorem truth_q (ok : Bool) : ∃ q : Int, q = (if ok then 1 else 0) ∧ ∀ w, Calls Tryd.prog 26 #[.bool ok] w fun e w' => e = .returned (.int .i64 q) ∧ w' = w := ⟨_, rfl, fun w => truth_c ok w⟩
theorem wrap_q {ok : Bool} {q : Int} {i : Nat} (hq : q = (if ok then 1 else 0)) (hi : i ≤ 6000) : IntKind.i64.wrap ((i : Int) * q) = (i : Int) * q := by
  rw [i64_w]
  cases ok
  · have : q = 0 := hq
    rw [this, Int.mul_zero]; unfold wrap64; omega
  · have : q = 1 := hq
    rw [this, Int.mul_one]; unfold wrap64; omega
theorem tail_end {w w4 : World} {gb i : Nat} {l : List Int} {t : S34} {v3 : Value} {ok : Bool} {q : Int} {a b c d : Value} (hq : q = (if ok then 1 else 0)) (hR : Kd.R (Kd.int .u8) 5 w4 w.heap.size (fun k => k ≠ gb) v3 t.f3) (hB : Below w.heap.size w w4) (hG : w.heap.size ≤ gb) (hr : IsRun l i) (hpos : 0 < i) (hy : ok = true → IsPiece (l.take i) t) (hno : ok = false → ∀ t', ¬ IsPiece (l.take i) t') :
    NextV l w (.returned (.tuple #[.agg #[.int .i64 t.f0, .int .i64 t.f1, .int .i64 t.f2, v3], .int .i64 ((i : Int) * q)])) ((((w4.setCell ⟨gb, 0, none⟩ a).setCell ⟨gb, 1, none⟩ b).setCell ⟨gb, 2, none⟩ c).setCell ⟨gb, 3, none⟩ d).drew := by
  have hR2 : Kd.R (Kd.int .u8) 5 ((((w4.setCell ⟨gb, 0, none⟩ a).setCell ⟨gb, 1, none⟩ b).setCell ⟨gb, 2, none⟩ c).setCell ⟨gb, 3, none⟩ d).drew w.heap.size (fun _ => True) v3 t.f3 := Kd.R_mono (Kd.R_move hR (fun k hk => far4 _ gb _ _ _ _ k hk)) (fun _ _ => trivial)
  have hB2 : Below w.heap.size w ((((w4.setCell ⟨gb, 0, none⟩ a).setCell ⟨gb, 1, none⟩ b).setCell ⟨gb, 2, none⟩ c).setCell ⟨gb, 3, none⟩ d).drew := below_drew1 (below_set (below_set (below_set (below_set hB hG) hG) hG) hG)
  cases ok
  · have e : q = 0 := hq
    rw [e, Int.mul_zero]
    exact ⟨t, v3, 0, rfl, Txt.of_R hR2, fun k hk => Kd.R_base hR2 k hk.symm, hB2, fun h => absurd h (Nat.lt_irrefl _), fun _ => .inl ⟨i, hr, hpos, hno rfl⟩⟩
  · have e : q = 1 := hq
    rw [e, Int.mul_one]
    exact ⟨t, v3, i, rfl, Txt.of_R hR2, fun k hk => Kd.R_base hR2 k hk.symm, hB2, fun _ => .inl ⟨i, hr, hpos, rfl, hy rfl⟩, fun h => by omega⟩

theorem lit_end {w w2 : World} {gb cap : Nat} {arr : Array Value} {fz : Nat × Nat} {xs : List Int} (a b c d : Value) (hB : Below w.heap.size w w2) (hG : w.heap.size ≤ gb) (hgb : gb < w2.heap.size) (harr : ∀ i, i < xs.length → arr[i]? = some (.int .u8 (xs.getD i 0))) (hfz : fz = (0, 0) ∨ xs.length ≤ fz.1) (hcap : xs.length ≤ cap) (hl : xs.length ≤ 100) :
    Txt (((((w2.alloc (.cells arr 5 fz)).setCell ⟨gb, 0, none⟩ a).setCell ⟨gb, 1, none⟩ b).setCell ⟨gb, 2, none⟩ c).setCell ⟨gb, 3, none⟩ d) (.slice (some ⟨w2.heap.size, 0, none⟩) xs.length cap) xs ∧ (∀ k, Own (.slice (some ⟨w2.heap.size, 0, none⟩) xs.length cap) k → w.heap.size ≤ k) ∧ Below w.heap.size w (((((w2.alloc (.cells arr 5 fz)).setCell ⟨gb, 0, none⟩ a).setCell ⟨gb, 1, none⟩ b).setCell ⟨gb, 2, none⟩ c).setCell ⟨gb, 3, none⟩ d) := by
  refine ⟨.inr ⟨w2.heap.size, cap, arr, fz, rfl, ?_, hcap, by omega, harr, hfz⟩, fun k hk => ?_, ?_⟩
  · rw [far4 _ gb _ _ _ _ w2.heap.size (by omega)]
    exact blk_new w2 _
  · have e : k = w2.heap.size := by simpa [Own, Value.ownBlock] using hk
    rw [e]; exact hB.size
  · exact below_set (below_set (below_set (below_set (below_step hB (below_alloc (Below.refl _ _) _)) hG) hG) hG) hG

/-! the two library functions -/
instance (l : List Int) : Decidable (Dbl l) := by unfold Dbl; infer_instance
theorem dbl_eq {l : List Int} (hb : Byt l) : Lib.hasPrefix (Lib.bytesOf l) (Lib.bytesOf [61, 61]) = decide (Dbl l) := by
  have key : ∀ x : Int, 0 ≤ x ∧ x < 256 → (UInt8.ofNat 61 == UInt8.ofNat x.toNat) = decide (x = 61) := by
    intro x hx
    by_cases h : x = 61
    · subst h; rfl
    · rw [decide_eq_false h, beq_eq_false_iff_ne]
      intro e
      have e2 := congrArg UInt8.toNat e
      rw [UInt8.toNat_ofNat', UInt8.toNat_ofNat'] at e2
      omega
  unfold Lib.hasPrefix Dbl
  match l, hb with
  | [], _ => rfl
  | [a], hb =>
    have ha := hb a (by simp)
    show ((UInt8.ofNat 61 == UInt8.ofNat a.toNat) && false) = _
    rw [Bool.and_false]
    exact (decide_eq_false (fun h => by have := h.2; exact absurd (show (0 : Int) = 61 from this) (by decide))).symm
  | a :: b :: r, hb =>
    have ha := hb a (by simp)
    have hb' := hb b (by simp)
    show ((UInt8.ofNat 61 == UInt8.ofNat a.toNat) && ((UInt8.ofNat 61 == UInt8.ofNat b.toNat) && true)) = _
    rw [key a ha, key b hb', Bool.and_true]
    show _ = decide (a = 61 ∧ b = 61)
    by_cases h1 : a = 61 <;> by_cases h2 : b = 61 <;> simp [h1, h2]
theorem dbl_c (ad : Addr) (n c : Nat) (l : List Int) (W : World) (g m : Nat) (hn : n = l.length) (h0 : 0 < n) (hc : n ≤ c) (hb : Byt l) (h1 : ∀ i : Nat, i < n → W.cell? (ad.add i) = some (.int .u8 (l.getD i 0))) (z0 : W.cell? ⟨g, 0, none⟩ = some (.int .u8 61)) (z1 : W.cell? ⟨g, 1, none⟩ = some (.int .u8 61)) :
    Calls Tryd.prog 27 #[.slice (some ad) n c, .slice (some ⟨g, 0, none⟩) 2 m] W fun e w' => e = .returned (.bool (decide (Dbl l))) ∧ w' = W := by
  have hs : ad.spot = none := by
    have h := h1 0 h0
    rw [Addr.add_zero'] at h
    unfold World.cell? at h
    cases e : ad.spot with
    | none => rfl
    | some s =>
      rw [e] at h
      split at h
      · simp at h
      · cases h
  obtain ⟨b, o, sp⟩ := ad
  have hs : sp = none := hs
  subst hs
  have h := Go.Proofs.YtkkodbbgdndhmaaDoor.Lb.bytes_HasPrefix b o n c g 0 2 m l [61, 61] W hn.symm rfl hc (fun i hi => by
    have h := h1 i hi
    have e : (⟨b, o, none⟩ : Addr).add i = ⟨b, o + i, none⟩ := by
      unfold Addr.add
      by_cases h0 : i = 0
      · rw [if_pos h0, h0, Nat.add_zero]
      · rw [if_neg h0]
    rw [e] at h
    exact h) (fun i hi => by
    have e : i = 0 ∨ i = 1 := by omega
    rcases e with rfl | rfl
    · exact z0
    · exact z1)
  rw [dbl_eq hb] at h
  exact h
def signBs : List UInt8 := [40, 41, 123, 125, 91, 93, 44, 59, 46, 42, 61, 43, 47, 37, 60, 45]
theorem sign_fin : ∀ c : Fin 256, decide (0 ≤ Lib.indexByte signBs (c.val).toUInt8) = decide (((c.val : Nat) : Int) ∈ signs) := by decide +kernel
theorem byt_at {l : List Int} (h : Byt l) (i : Nat) : 0 ≤ l.getD i 0 ∧ l.getD i 0 < 256 := by
  by_cases hi : i < l.length
  · rw [List.getD_eq_getElem?_getD, List.getElem?_eq_getElem hi]
    exact h _ (List.getElem_mem hi)
  · rw [List.getD_eq_getElem?_getD, List.getElem?_eq_none (by omega)]
    exact ⟨by decide, by decide⟩
theorem sign_c (y : Int) (h0 : 0 ≤ y) (h1 : y < 256) : ∃ r : Int, (0 ≤ r ↔ y ∈ signs) ∧ ∀ w, Calls Tryd.prog 28 #[.string ⟨#[40, 41, 123, 125, 91, 93, 44, 59, 46, 42, 61, 43, 47, 37, 60, 45]⟩, .int .u8 y] w fun e w' => e = .returned (.int .i64 r) ∧ w' = w := by
  refine ⟨Lib.indexByte signBs y.toNat.toUInt8, ?_, fun w => Go.Proofs.YtkkodbbgdndhmaaDoor.Lb.strings_IndexByte ⟨#[40, 41, 123, 125, 91, 93, 44, 59, 46, 42, 61, 43, 47, 37, 60, 45]⟩ y w⟩
  have h := sign_fin ⟨y.toNat, by omega⟩
  have e : ((y.toNat : Nat) : Int) = y := by omega
  simp only at h
  rw [e] at h
  exact decide_eq_decide.1 h

end Go.Proofs.YtkkodbbgdndhmaaDoor.LxFnExactLex
