/- Plain laws of the printed impl.CopyWords of one law: what it answers, and what each word of its answer is. -/
import Derived.Test.YtjnllkhchjhihaaQFnExactCopyWordsx
import Derived.Test.YtjnllkhchjhihaaAid
import Derived.Test.YtjnllkhchjhihaaCopyLaw
namespace Go.Proofs.Ytjnllkhchjhihaa.CopyPFnExactCopyWords
open Go.RowKit Go.Proofs.Ytjnllkhchjhihaa.QFnExactCopyWords Go.Proofs.YtjnllkhchjhihaaW.PrintWords Go.Proofs.YtjnllkhchjhihaaW.PrintLast Go.Proofs.Ytjnllkhchjhihaa.Aid

theorem splice_get? (L cs : List Int) (off : Nat) (h : off + cs.length ≤ L.length) (j : Nat) :
    (splice L off cs)[j]? = if off ≤ j ∧ j < off + cs.length then cs[j - off]? else L[j]? := by
  unfold splice
  rw [List.getElem?_append, List.getElem?_append, List.length_take, Nat.min_eq_left (by omega)]
  by_cases c1 : j < off
  · rw [if_pos c1, if_neg (by omega), List.getElem?_take, if_pos c1]
  · rw [if_neg c1]
    by_cases c2 : j < off + cs.length
    · rw [if_pos (by omega), if_pos (by omega)]
    · rw [if_neg (by omega), if_neg (by omega), List.getElem?_drop]
      congr 1
      omega

/-- May so many words be copied? -/
def Ok (x : List Int) (f t n : Int) : Prop := 0 ≤ n ∧ 0 ≤ f ∧ f + n ≤ (x.length : Int) ∧ 0 ≤ t ∧ t + n ≤ (x.length : Int)
instance (x : List Int) (f t n : Int) : Decidable (Ok x f t n) := by unfold Ok; exact inferInstance

def cp (x : List Int) (f t n : Int) : List Int := splice x t.toNat (List.take n.toNat (List.drop f.toNat x))

theorem cp_len {x : List Int} {f t n : Int} (h : Ok x f t n) : (List.take n.toNat (List.drop f.toNat x)).length = n.toNat := by
  obtain ⟨h0, h1, h2, h3, h4⟩ := h
  rw [List.length_take, List.length_drop]; omega

theorem cp_length {x : List Int} {f t n : Int} (h : Ok x f t n) : (cp x f t n).length = x.length := by
  have hl := cp_len h
  obtain ⟨h0, h1, h2, h3, h4⟩ := h
  exact length_splice _ _ _ (by omega)

theorem cp_get {x : List Int} {f t n : Int} (h : Ok x f t n) (j : Nat) :
    (cp x f t n)[j]? = if t.toNat ≤ j ∧ j < t.toNat + n.toNat then x[f.toNat + (j - t.toNat)]? else x[j]? := by
  have hl := cp_len h
  obtain ⟨h0, h1, h2, h3, h4⟩ := h
  unfold cp
  rw [splice_get? _ _ _ (by omega), hl]
  by_cases c : t.toNat ≤ j ∧ j < t.toNat + n.toNat
  · rw [if_pos c, if_pos c, List.getElem?_take, if_pos (by omega), List.getElem?_drop]
  · rw [if_neg c, if_neg c]

theorem rd_of_get {x : List Int} {j : Nat} {y : Int} (h : x[j]? = some y) : rd x (j : Int) = y := by
  unfold rd
  rw [Int.toNat_natCast, List.getD_eq_getElem?_getD, h]; rfl

theorem get_rd {x : List Int} {j : Nat} (h : j < x.length) : x[j]? = some (rd x (j : Int)) := by
  rw [List.getElem?_eq_getElem h, rd_eq _ _ h]

theorem copy_is (x : List Int) (f t n : Int) (hx : x.length ≤ 1048576) : impl_CopyWords.f x f t n = some (if Ok x f t n then cp x f t n else x, decide (Ok x f t n)) := by
  unfold impl_CopyWords.f impl_in.f slices_Clone_int_int.f
  rw [if_pos (show x.length < 17592186044416 by omega)]
  simp only [Option.bind_some]
  have no : ¬ Ok x f t n → some (x, false) = some (if Ok x f t n then cp x f t n else x, decide (Ok x f t n)) := by
    intro h; rw [if_neg h, decide_eq_false h]
  by_cases c0 : 0 ≤ n
  · rw [if_pos c0]; simp only [Option.bind_some]
    by_cases c1 : n ≤ (x.length : Int)
    · rw [if_pos (decide_eq_true c1), wrap64_id (by omega) (by omega)]
      by_cases c2 : 0 ≤ f
      · rw [if_pos c2]; simp only [Option.bind_some]
        by_cases c3 : f ≤ (x.length : Int) - n
        · rw [if_pos (decide_eq_true c3)]
          by_cases c4 : 0 ≤ t
          · rw [if_pos c4]; simp only [Option.bind_some]
            by_cases c5 : t ≤ (x.length : Int) - n
            · have ok : Ok x f t n := ⟨c0, c2, by omega, c4, by omega⟩
              rw [if_pos (decide_eq_true c5), if_pos ok, decide_eq_true ok]; rfl
            · rw [if_neg (by simp; omega)]; exact no (fun h => by have := h.2.2.2.2; omega)
          · rw [if_neg c4]; exact no (fun h => c4 h.2.2.2.1)
        · rw [if_neg (by simp; omega)]; exact no (fun h => by have := h.2.2.1; omega)
      · rw [if_neg c2]; exact no (fun h => c2 h.2.1)
    · rw [if_neg (by simp; omega)]; exact no (fun h => by have := h.2.1; have := h.2.2.1; omega)
  · rw [if_neg c0]; exact no (fun h => c0 h.1)

end Go.Proofs.Ytjnllkhchjhihaa.CopyPFnExactCopyWords
