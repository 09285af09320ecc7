/- Reading an image, as functions on lists; kinds of rows whose inner rows are apart. -/
import Derived.Test.YtkfeoilnhpfknaaRdbFnExactImageRead
namespace Go.Proofs.Ytkfeoilnhpfknaa.ImFnExactImageRead
open Go.RowKit Go.Proofs.Ytkfeoilnhpfknaa.QFnExactImageRead Go.Proofs.YtkfeoilnhpfknaaW.PrintWords Go.Proofs.YtkfeoilnhpfknaaW.PrintLast

/-- A list whose elements lead to blocks of their own. -/
def ksl {α : Type} (e : Nat) (d : Kd α) : Kd (List α) where
  sz := 1
  E := e :: d.E
  K := (Kd.slice e d).K
  M := fun w base ok xs cs => ∃ v, cs = [v] ∧ Kd.S d e w base ok v xs
  K_len := (Kd.slice e d).K_len
  K_one := (Kd.slice e d).K_one
  K_below := (Kd.slice e d).K_below
  K_of_M := fun ⟨v, h, k⟩ => (Kd.slice e d).K_of_M (base := _) (ok := _) ⟨v, h, Kd.S_R k⟩
  M_mono := fun hok ⟨v, h, k⟩ => ⟨v, h, Kd.S_mono k hok⟩
  M_bound := fun ⟨v, h, k⟩ => ⟨v, h, Kd.S_bound k⟩
  M_move := fun hm ⟨v, h, k⟩ => ⟨v, h, Kd.S_move k hm⟩
  M_lower := fun hb ⟨v, h, k⟩ => ⟨v, h, Kd.S_lower k hb⟩
def k53s : Kd S53 := Kd.iso (Kd.pair (Kd.int .i64) (Kd.pair (Kd.int .i64) (Kd.pair (Kd.slice 68 k68) (ksl 72 k72)))) (fun x : S53 => (x.f0, x.f1, x.f2, x.f3))
theorem k53s_mkM (w : World) (base : Nat) (ok : Nat → Prop) (x : S53) {v2 : Value} (g2 : k68.R 68 w base ok v2 x.f2) {v3 : Value} (g3 : Kd.S k72 72 w base ok v3 x.f3) : k53s.M w base ok x [.int .i64 x.f0, .int .i64 x.f1, v2, v3] := ⟨[.int .i64 x.f0], [.int .i64 x.f1, v2, v3], rfl, rfl, ⟨[.int .i64 x.f1], [v2, v3], rfl, rfl, ⟨[v2], [v3], rfl, ⟨v2, rfl, g2⟩, ⟨v3, rfl, g3⟩⟩⟩⟩
theorem k53s_openM {w : World} {base : Nat} {ok : Nat → Prop} {x : S53} {cs : List Value} (h : k53s.M w base ok x cs) : ∃ v2 v3, cs = [.int .i64 x.f0, .int .i64 x.f1, v2, v3] ∧ k68.R 68 w base ok v2 x.f2 ∧ Kd.S k72 72 w base ok v3 x.f3 := by
  obtain ⟨_, _, rfl, rfl, ⟨_, _, rfl, rfl, ⟨_, _, rfl, ⟨v2, rfl, g2⟩, ⟨v3, rfl, g3⟩⟩⟩⟩ := h
  exact ⟨v2, v3, rfl, g2, g3⟩
theorem k53s_C {w : World} {A : Option Addr} {n : Nat} {xs : List S53} (h : Kd.C k53s w A n xs) : Kd.C k53 w A n xs := h

/-- What is left, and whether there was too little. -/
abbrev RSt := List Int × Bool
def rNum (m : Nat) (s : RSt) : RSt := (numR m s.1, numF m s.1 s.2)
def rInts (n : Nat) (s : RSt) : RSt := (intsR n s.1 s.2, intsF n s.1 s.2)
def vInts (n : Nat) (s : RSt) : List Int := intsV n s.1 s.2
/-- An instruction. -/
def vIns (s : RSt) : S68 := ⟨numV 1 s.1, numV 1 (rNum 1 s).1, numV 1 (rNum 1 (rNum 1 s)).1, numV 1 (rNum 1 (rNum 1 (rNum 1 s))).1, numV 8 (rNum 1 (rNum 1 (rNum 1 (rNum 1 s)))).1⟩
def rIns (s : RSt) : RSt := rNum 8 (rNum 1 (rNum 1 (rNum 1 (rNum 1 s))))
/-- A map. -/
def hMap (s : RSt) : List Int := vInts 2 s ++ [0, 0]
def vMap (s : RSt) : S72 := ⟨(hMap s).getD 0 0, vInts ((hMap s).getD 1 0).toNat (rInts 2 s)⟩
def rMap (s : RSt) : RSt := rInts ((hMap s).getD 1 0).toNat (rInts 2 s)
/-- So many of them. -/
def vMany {α : Type} (v : RSt → α) (r : RSt → RSt) : Nat → RSt → List α
  | 0, _ => []
  | n + 1, s => if s.2 = true then [] else v s :: vMany v r n (r s)
def rMany (r : RSt → RSt) : Nat → RSt → RSt
  | 0, s => s
  | n + 1, s => if s.2 = true then s else rMany r n (r s)
theorem vMany_bad {α : Type} (v : RSt → α) (r : RSt → RSt) (n : Nat) {s : RSt} (h : s.2 = true) : vMany v r n s = [] := by
  cases n with
  | zero => rfl
  | succ n => rw [vMany, if_pos h]
theorem rMany_bad (r : RSt → RSt) (n : Nat) {s : RSt} (h : s.2 = true) : rMany r n s = s := by
  cases n with
  | zero => rfl
  | succ n => rw [rMany, if_pos h]
/-- A code. -/
def hCode (s : RSt) : List Int := vInts 4 s ++ [0, 0, 0, 0]
def sIns (s : RSt) : RSt := rMany rIns ((hCode s).getD 2 0).toNat (rInts 4 s)
def vCode (s : RSt) : S53 := ⟨(hCode s).getD 0 0, (hCode s).getD 1 0, vMany vIns rIns ((hCode s).getD 2 0).toNat (rInts 4 s), vMany vMap rMap ((hCode s).getD 3 0).toNat (sIns s)⟩
def rCode (s : RSt) : RSt := rMany rMap ((hCode s).getD 3 0).toNat (sIns s)
/-- A struct. -/
def vBool (s : RSt) : Bool := numV 1 s.1 == 1
def vStruct (s : RSt) : List Bool := vMany vBool (rNum 1) (numV 2 s.1).toNat (rNum 2 s)
def rStruct (s : RSt) : RSt := rMany (rNum 1) (numV 2 s.1).toNat (rNum 2 s)
/-- An image. -/
def hImg (s : RSt) : List Int := vInts 3 s ++ [0, 0, 0]
def vStructs (s : RSt) : List (List Bool) := vMany vStruct rStruct ((hImg s).getD 0 0).toNat (rInts 3 s)
def sStructs (s : RSt) : RSt := rMany rStruct ((hImg s).getD 0 0).toNat (rInts 3 s)
def vCodes (s : RSt) : List S53 := vMany vCode rCode ((hImg s).getD 1 0).toNat (sStructs s)
def sCodes (s : RSt) : RSt := rMany rCode ((hImg s).getD 1 0).toNat (sStructs s)
def vMain (s : RSt) : Int := (hImg s).getD 2 0

theorem intsR_len (n : Nat) : ∀ (rest : List Int) (bad : Bool), (intsR n rest bad).length ≤ rest.length := by
  induction n with
  | zero => intro rest bad; exact Nat.le_refl _
  | succ n ih =>
    intro rest bad
    rw [intsR]
    split
    · exact Nat.le_refl _
    · exact Nat.le_trans (ih _ _) (numR_len 2 rest)
theorem rNum_len (m : Nat) (s : RSt) : (rNum m s).1.length ≤ s.1.length := numR_len m s.1
theorem rInts_len (n : Nat) (s : RSt) : (rInts n s).1.length ≤ s.1.length := intsR_len n s.1 s.2
theorem rIns_len (s : RSt) : (rIns s).1.length ≤ s.1.length :=
  Nat.le_trans (rNum_len 8 _) (Nat.le_trans (rNum_len 1 _) (Nat.le_trans (rNum_len 1 _) (Nat.le_trans (rNum_len 1 _) (rNum_len 1 s))))
theorem rMap_len (s : RSt) : (rMap s).1.length ≤ s.1.length := Nat.le_trans (rInts_len _ _) (rInts_len 2 s)
theorem rMany_len {r : RSt → RSt} (h : ∀ s, (r s).1.length ≤ s.1.length) (n : Nat) : ∀ s : RSt, (rMany r n s).1.length ≤ s.1.length := by
  induction n with
  | zero => intro s; exact Nat.le_refl _
  | succ n ih =>
    intro s
    rw [rMany]
    split
    · exact Nat.le_refl _
    · exact Nat.le_trans (ih _) (h s)
theorem rCode_len (s : RSt) : (rCode s).1.length ≤ s.1.length := Nat.le_trans (rMany_len rMap_len _ _) (Nat.le_trans (rMany_len rIns_len _ _) (rInts_len 4 s))
theorem rStruct_len (s : RSt) : (rStruct s).1.length ≤ s.1.length := Nat.le_trans (rMany_len (rNum_len 1) _ _) (rNum_len 2 s)
theorem intsV_len (n : Nat) : ∀ (rest : List Int) (bad : Bool), (intsV n rest bad).length ≤ n := by
  induction n with
  | zero => intro rest bad; exact Nat.le_refl _
  | succ n ih =>
    intro rest bad
    rw [intsV]
    split
    · exact Nat.zero_le _
    · rw [List.length_cons]; have := ih (numR 2 rest) (numF 2 rest bad); omega

/-- Having read i of n. -/
def Man {α : Type} (v : RSt → α) (r : RSt → RSt) (n : Nat) (s0 : RSt) (i : Nat) (xs : List α) (st : RSt) : Prop := i ≤ n ∧ xs ++ vMany v r (n - i) st = vMany v r n s0 ∧ rMany r (n - i) st = rMany r n s0 ∧ xs.length = i ∧ st.1.length ≤ s0.1.length ∧ (st.2 = true ∨ i + st.1.length ≤ s0.1.length)
theorem Man.start {α : Type} (v : RSt → α) (r : RSt → RSt) (n : Nat) (s0 : RSt) : Man v r n s0 0 [] s0 := ⟨Nat.zero_le _, rfl, rfl, rfl, Nat.le_refl _, .inr (by omega)⟩
theorem Man.next {α : Type} {v : RSt → α} {r : RSt → RSt} {n : Nat} {s0 : RSt} {i : Nat} {xs : List α} {st : RSt} (h : Man v r n s0 i xs st) (hb : st.2 = false) (hlt : i < n) (hl : (r st).1.length ≤ st.1.length) (hr : (r st).2 = true ∨ (r st).1.length + 1 ≤ st.1.length) : Man v r n s0 (i + 1) (xs ++ [v st]) (r st) := by
  obtain ⟨h1, h2, h3, h4, h5, h6⟩ := h
  have e : n - i = (n - (i + 1)) + 1 := by omega
  have hn : ¬ st.2 = true := by rw [hb]; decide
  rw [e, vMany, if_neg hn] at h2
  rw [e, rMany, if_neg hn] at h3
  refine ⟨hlt, by rw [List.append_assoc]; exact h2, h3, by rw [List.length_append, List.length_singleton, h4], Nat.le_trans hl h5, ?_⟩
  rcases h6 with h6 | h6
  · exact absurd h6 hn
  · rcases hr with hr | hr
    · exact .inl hr
    · right; omega
theorem Man.small {α : Type} {v : RSt → α} {r : RSt → RSt} {n : Nat} {s0 : RSt} {i : Nat} {xs : List α} {st : RSt} (h : Man v r n s0 i xs st) (hb : st.2 = false) : i ≤ s0.1.length := by
  obtain ⟨h1, h2, h3, h4, h5, h6⟩ := h
  rcases h6 with h6 | h6
  · rw [hb] at h6; cases h6
  · omega
theorem Man.stop_bad {α : Type} {v : RSt → α} {r : RSt → RSt} {n : Nat} {s0 : RSt} {i : Nat} {xs : List α} {st : RSt} (h : Man v r n s0 i xs st) (hb : st.2 = true) : xs = vMany v r n s0 ∧ st = rMany r n s0 := by
  obtain ⟨h1, h2, h3, h4, h5, h6⟩ := h
  rw [vMany_bad v r _ hb, List.append_nil] at h2
  rw [rMany_bad r _ hb] at h3
  exact ⟨h2, h3⟩
theorem Man.stop {α : Type} {v : RSt → α} {r : RSt → RSt} {n : Nat} {s0 : RSt} {i : Nat} {xs : List α} {st : RSt} (h : Man v r n s0 i xs st) (hlt : ¬ i < n) : xs = vMany v r n s0 ∧ st = rMany r n s0 := by
  obtain ⟨h1, h2, h3, h4, h5, h6⟩ := h
  have e : n - i = 0 := by omega
  rw [e] at h2 h3
  exact ⟨by rw [← h2]; exact (List.append_nil _).symm, h3⟩
theorem rNum_or (m : Nat) (s : RSt) (hm : 0 < m) : (rNum m s).2 = true ∨ (rNum m s).1.length + m ≤ s.1.length := numF_or m s.1 s.2 hm
theorem rIns_or (s : RSt) : (rIns s).2 = true ∨ (rIns s).1.length + 1 ≤ s.1.length := by
  have h1 := rNum_len 1 s
  have h2 := rNum_len 1 (rNum 1 s)
  have h3 := rNum_len 1 (rNum 1 (rNum 1 s))
  have h4 := rNum_len 1 (rNum 1 (rNum 1 (rNum 1 s)))
  rcases rNum_or 8 (rNum 1 (rNum 1 (rNum 1 (rNum 1 s)))) (by decide) with h | h
  · exact .inl h
  · right
    show (rNum 8 (rNum 1 (rNum 1 (rNum 1 (rNum 1 s))))).1.length + 1 ≤ s.1.length
    omega
theorem intsF_keep (n : Nat) : ∀ (rest : List Int), intsF n rest true = true := by
  intro rest
  cases n with
  | zero => rfl
  | succ n => rw [intsF, if_pos rfl]
theorem rInts_or (n : Nat) (s : RSt) (hn : 0 < n) (hb : s.2 = false) : (rInts n s).2 = true ∨ (rInts n s).1.length + 1 ≤ s.1.length := by
  obtain ⟨rest, bad⟩ := s
  cases hb
  cases n with
  | zero => exact absurd hn (by decide)
  | succ n =>
    show intsF (n + 1) rest false = true ∨ (intsR (n + 1) rest false).length + 1 ≤ rest.length
    rw [intsF, intsR, if_neg (by decide), if_neg (by decide)]
    rcases numF_or 2 rest false (by decide) with h | h
    · left
      rw [h]
      exact intsF_keep n _
    · right
      have := intsR_len n (numR 2 rest) (numF 2 rest false)
      omega
theorem rMap_or (s : RSt) (hb : s.2 = false) : (rMap s).2 = true ∨ (rMap s).1.length + 1 ≤ s.1.length := by
  rcases rInts_or 2 s (by decide) hb with h | h
  · left
    show intsF _ (rInts 2 s).1 (rInts 2 s).2 = true
    rw [h]
    exact intsF_keep _ _
  · right
    have := rInts_len ((hMap s).getD 1 0).toNat (rInts 2 s)
    show (rInts ((hMap s).getD 1 0).toNat (rInts 2 s)).1.length + 1 ≤ s.1.length
    omega

end Go.Proofs.Ytkfeoilnhpfknaa.ImFnExactImageRead
