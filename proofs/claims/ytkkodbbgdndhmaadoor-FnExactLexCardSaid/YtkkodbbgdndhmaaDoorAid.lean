/- Plain helpers: 'Tells g P' says that g, given enough rounds, answers some r with P r; and rules for it. No program is spoken of. -/
import Derived.Test.YtkkodbbgdndhmaaDoorWAll
namespace Go.Proofs.YtkkodbbgdndhmaaDoor.Aid
open Go.RowKit Go.Proofs.YtkkodbbgdndhmaaDoorW.PrintWords

/-- With enough rounds g answers, and the answer meets P. -/
def Tells {α : Type} (g : Nat → Option α) (P : α → Prop) : Prop := ∃ r, P r ∧ ∃ K, ∀ k, K ≤ k → g k = some r

theorem Tells.now {α : Type} {P : α → Prop} {r : α} (h : P r) : Tells (fun _ => some r) P := ⟨r, h, 0, fun _ _ => rfl⟩

theorem Tells.bind {α β : Type} {g : Nat → Option α} {f : Nat → α → Option β} {P : α → Prop} {Q : β → Prop}
    (h : Tells g P) (k : ∀ a, P a → Tells (fun n => f n a) Q) : Tells (fun n => (g n).bind (f n)) Q := by
  obtain ⟨a, ha, K, hK⟩ := h
  obtain ⟨r, hr, L, hL⟩ := k a ha
  refine ⟨r, hr, max K L, fun n hn => ?_⟩
  show (g n).bind (f n) = some r
  rw [hK n (by omega)]
  exact hL n (by omega)

theorem Tells.ite {α : Type} {c : Prop} [Decidable c] {g f : Nat → Option α} {P : α → Prop}
    (h : c → Tells g P) (k : ¬ c → Tells f P) : Tells (fun n => if c then g n else f n) P := by
  by_cases hc : c
  · simp only [if_pos hc]; exact h hc
  · simp only [if_neg hc]; exact k hc

theorem Tells.pos {α : Type} {c : Prop} [Decidable c] {g f : Nat → Option α} {P : α → Prop}
    (hc : c) (h : Tells g P) : Tells (fun n => if c then g n else f n) P := Tells.ite (fun _ => h) (fun n => absurd hc n)

theorem Tells.neg {α : Type} {c : Prop} [Decidable c] {g f : Nat → Option α} {P : α → Prop}
    (hc : ¬ c) (h : Tells f P) : Tells (fun n => if c then g n else f n) P := Tells.ite (fun n => absurd n hc) (fun _ => h)

theorem Tells.step {α : Type} {g f : Nat → Option α} {P : α → Prop} (h : ∀ k, g (k + 1) = f k) (k : Tells f P) : Tells g P := by
  obtain ⟨r, hr, K, hK⟩ := k
  refine ⟨r, hr, K + 1, fun n hn => ?_⟩
  obtain ⟨m, rfl⟩ : ∃ m, n = m + 1 := ⟨n - 1, by omega⟩
  rw [h]; exact hK m (by omega)

theorem Tells.congr {α : Type} {g f : Nat → Option α} {P : α → Prop} (h : ∀ k, g k = f k) (k : Tells f P) : Tells g P := by
  obtain ⟨r, hr, K, hK⟩ := k
  exact ⟨r, hr, K, fun n hn => by rw [h]; exact hK n hn⟩

theorem Tells.mono {α : Type} {g : Nat → Option α} {P Q : α → Prop} (h : Tells g P) (k : ∀ r, P r → Q r) : Tells g Q := by
  obtain ⟨r, hr, hK⟩ := h
  exact ⟨r, k r hr, hK⟩

theorem Tells.rounds {α : Type} {g : Nat → Option α} {r : α} (h : Tells g (fun x => x = r)) : ∃ k, g k = some r := by
  obtain ⟨_, rfl, K, hK⟩ := h
  exact ⟨K, hK K (Nat.le_refl K)⟩

theorem Tells.eq {α : Type} {x : Option α} {r : α} {P : α → Prop} (h : x = some r) (hp : P r) : Tells (fun _ => x) P :=
  ⟨r, hp, 0, fun _ _ => h⟩

/-- What the answer meets is not known, but that there is one, and it is the only one. -/
theorem Tells.some_of {α : Type} {x : Option α} {P : α → Prop} (h : Tells (fun _ => x) P) : ∃ r, x = some r ∧ P r := by
  obtain ⟨r, hr, K, hK⟩ := h
  exact ⟨r, hK K (Nat.le_refl K), hr⟩

theorem wrap64_id {x : Int} (h0 : -9223372036854775808 ≤ x) (h1 : x ≤ 9223372036854775807) : wrap64 x = x := by
  unfold wrap64; omega

theorem rd_eq (x : List Int) (i : Nat) (h : i < x.length) : rd x (i : Int) = x[i] := by
  unfold rd
  rw [Int.toNat_natCast, List.getD_eq_getElem?_getD, List.getElem?_eq_getElem h]
  rfl

/-- a, a + 1, .. : n of them. -/
def ups : Int → Nat → List Int
  | _, 0 => []
  | a, n + 1 => a :: ups (a + 1) n

theorem ups_length (n : Nat) : ∀ a, (ups a n).length = n := by
  induction n with
  | zero => intro a; rfl
  | succ n ih => intro a; simp [ups, ih]

theorem ups_get (n : Nat) : ∀ (a : Int) (i : Nat), i < n → (ups a n).getD i 0 = a + i := by
  induction n with
  | zero => intro a i h; omega
  | succ n ih =>
    intro a i h
    cases i with
    | zero => simp [ups]
    | succ i =>
      have := ih (a + 1) i (by omega)
      simp only [ups, List.getD_cons_succ, this]
      omega

end Go.Proofs.YtkkodbbgdndhmaaDoor.Aid
