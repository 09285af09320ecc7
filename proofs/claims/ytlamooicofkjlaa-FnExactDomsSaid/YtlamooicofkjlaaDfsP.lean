import Derived.Test.YtlamooicofkjlaaDomP
/- Plain theory: what is reached, last finished first, as a stack of visits finds it. No program is spoken of. -/
namespace Go.Proofs.Ytlamooicofkjlaa.DfsP
open Go.Proofs.Ytlamooicofkjlaa.DomP
set_option linter.unusedVariables false

/-- An edge between blocks. -/
abbrev edg (E : Nat → List Nat) (u v : Nat) : Prop := v ∈ E u
/-- All that is reached. -/
abbrev Rc (E : Nat → List Nat) (v : Nat) : Prop := Rch (edg E) (fun _ => False) v
/-- A stack, its top first: each is led to by the one below it, the lowest is 0. -/
def Below (E : Nat → List Nat) : List Nat → Prop
  | [] => True
  | [t] => t = 0
  | t :: u :: r => t ∈ E u ∧ Below E (u :: r)
theorem Below.tail {E : Nat → List Nat} {t : Nat} {r : List Nat} (h : Below E (t :: r)) : Below E r := by
  cases r with
  | nil => trivial
  | cons u r => exact h.2

structure DInv (E : Nat → List Nat) (n : Nat) (seen : Nat → Bool) (stk : List (Nat × Nat)) (fin : List Nat) : Prop where
  sn : ∀ v, seen v = true ↔ v ∈ stk.map Prod.fst ∨ v ∈ fin
  nd : (stk.map Prod.fst ++ fin).Nodup
  lt : ∀ v, seen v = true → v < n
  fe : ∀ v ∈ fin, ∀ w ∈ E v, seen w = true
  se : ∀ x ∈ stk, x.2 ≤ (E x.1).length ∧ ∀ j, j < x.2 → ∀ w, (E x.1)[j]? = some w → seen w = true
  rc : ∀ v, seen v = true → Rc E v
  fp : ∀ a v b, fin = a ++ v :: b → v ≠ 0 → ∃ u, v ∈ E u ∧ (u ∈ stk.map Prod.fst ∨ u ∈ b)
  bl : Below E (stk.map Prod.fst)
  en : stk = [] → 0 < n → ∃ a, fin = a ++ [0]

theorem DInv.none {E : Nat → List Nat} : DInv E 0 (fun _ => false) [] [] where
  sn := fun v => by simp
  nd := by simp
  lt := fun v h => by cases h
  fe := fun v h => by cases h
  se := fun x h => by cases h
  rc := fun v h => by cases h
  fp := fun a v b h => by simp at h
  bl := trivial
  en := fun _ h => absurd h (Nat.lt_irrefl _)
theorem DInv.start {E : Nat → List Nat} {n : Nat} (hn : 0 < n) : DInv E n (fun v => v == 0) [(0, 0)] [] where
  sn := fun v => by simp
  nd := by simp
  lt := fun v h => by have : v = 0 := by simpa using h
                      omega
  fe := fun v h => by cases h
  se := fun x h => by
    obtain rfl : x = (0, 0) := by simpa using h
    exact ⟨Nat.zero_le _, fun j hj => by omega⟩
  rc := fun v h => by
    have : v = 0 := by simpa using h
    subst this; exact .root (fun h => h)
  fp := fun a v b h => by simp at h
  bl := rfl
  en := fun h => by cases h
/-- The top has led to all it leads to. -/
theorem DInv.pop {E : Nat → List Nat} {n : Nat} {seen : Nat → Bool} {t k : Nat} {r : List (Nat × Nat)} {fin : List Nat} (I : DInv E n seen ((t, k) :: r) fin) (hk : k = (E t).length) : DInv E n seen r (fin ++ [t]) where
  sn := fun v => by
    rw [I.sn v]
    simp only [List.map_cons, List.mem_cons, List.mem_append, List.not_mem_nil, or_false]
    constructor
    · rintro ((h | h) | h)
      · exact .inr (.inr h)
      · exact .inl h
      · exact .inr (.inl h)
    · rintro (h | h | h)
      · exact .inl (.inr h)
      · exact .inr h
      · exact .inl (.inl h)
  nd := by
    have h := I.nd
    rw [List.map_cons, List.cons_append] at h
    have h2 := List.nodup_cons.1 h
    rw [← List.append_assoc]
    rw [List.nodup_append]
    refine ⟨h2.2, by simp, ?_⟩
    intro a ha b hb e
    have : b = t := by simpa using hb
    subst this; subst e
    exact h2.1 ha
  lt := I.lt
  fe := fun v hv w hw => by
    rcases List.mem_append.1 hv with h | h
    · exact I.fe v h w hw
    · have : v = t := by simpa using h
      subst this
      obtain ⟨j, hj, e⟩ := List.getElem_of_mem hw
      exact (I.se (v, k) (List.mem_cons_self)).2 j (by show j < k; omega) w (by show (E v)[j]? = _; rw [List.getElem?_eq_getElem hj, e])
  se := fun x hx => I.se x (List.mem_cons_of_mem _ hx)
  rc := I.rc
  fp := fun a v b h hv => by
    rcases List.eq_nil_or_concat b with rfl | ⟨b', x, rfl⟩
    · have h2 : fin ++ [t] = a ++ [v] := h
      obtain ⟨_, e⟩ := List.append_inj' h2 rfl
      have e : t = v := by simpa using e
      subst e
      have hb := I.bl
      cases r with
      | nil => exact absurd hb hv
      | cons y r => exact ⟨y.1, hb.1, .inl (by simp)⟩
    · have h2 : fin ++ [t] = (a ++ v :: b') ++ [x] := by rw [h]; simp
      obtain ⟨e1, e⟩ := List.append_inj' h2 rfl
      have e : t = x := by simpa using e
      subst e
      obtain ⟨u, hu, h3⟩ := I.fp a v b' e1 hv
      refine ⟨u, hu, ?_⟩
      rcases h3 with h3 | h3
      · rw [List.map_cons, List.mem_cons] at h3
        rcases h3 with rfl | h3
        · exact .inr (by simp)
        · exact .inl h3
      · exact .inr (by simp [h3])
  bl := Below.tail I.bl
  en := fun h hn => by
    subst h
    have hb : t = 0 := I.bl
    subst hb
    exact ⟨fin, rfl⟩
/-- The top's next edge leads to what was seen. -/
theorem DInv.skip {E : Nat → List Nat} {n : Nat} {seen : Nat → Bool} {t k : Nat} {r : List (Nat × Nat)} {fin : List Nat} (I : DInv E n seen ((t, k) :: r) fin) {w : Nat} (hw : (E t)[k]? = some w) (hs : seen w = true) : DInv E n seen ((t, k + 1) :: r) fin where
  sn := fun v => by rw [I.sn v]; simp
  nd := by have h := I.nd; simpa using h
  lt := I.lt
  fe := I.fe
  se := fun x hx => by
    rcases List.mem_cons.1 hx with rfl | hx
    · have h := I.se (t, k) (List.mem_cons_self)
      refine ⟨?_, ?_⟩
      · have := (List.getElem?_eq_some_iff.1 hw).1
        show k + 1 ≤ (E t).length; omega
      · intro j hj v hv
        have hj : j < k + 1 := hj
        by_cases e : j = k
        · subst e
          have hv : (E t)[j]? = some v := hv
          rw [hw] at hv
          cases hv; exact hs
        · exact h.2 j (by show j < k; omega) v hv
    · exact I.se x (List.mem_cons_of_mem _ hx)
  rc := I.rc
  fp := fun a v b h hv => by have := I.fp a v b h hv; simpa using this
  bl := I.bl
  en := fun h => by cases h
/-- It leads to a new one. -/
theorem DInv.push {E : Nat → List Nat} {n : Nat} {seen : Nat → Bool} {t k : Nat} {r : List (Nat × Nat)} {fin : List Nat} (I : DInv E n seen ((t, k) :: r) fin) {w : Nat} (hw : (E t)[k]? = some w) (hs : seen w = false) (hn : w < n) : DInv E n (fun v => if v = w then true else seen v) ((w, 0) :: (t, k + 1) :: r) fin where
  sn := fun v => by
    by_cases e : v = w
    · subst e; simp
    · simp only [if_neg e]
      rw [I.sn v]; simp [e]
  nd := by
    have h := I.nd
    have hx : w ∉ (((t, k) :: r).map Prod.fst ++ fin) := fun h => by
      have := (I.sn w).2 (List.mem_append.1 h)
      rw [hs] at this; cases this
    rw [List.map_cons, List.cons_append, List.nodup_cons]
    exact ⟨hx, h⟩
  lt := fun v h => by
    by_cases e : v = w
    · subst e; exact hn
    · rw [if_neg e] at h; exact I.lt v h
  fe := fun v hv x hx => by
    by_cases e : x = w
    · rw [if_pos e]
    · rw [if_neg e]; exact I.fe v hv x hx
  se := fun x hx => by
    have up : ∀ v, seen v = true → (if v = w then true else seen v) = true := fun v h => by
      by_cases e : v = w
      · rw [if_pos e]
      · rw [if_neg e]; exact h
    rcases List.mem_cons.1 hx with rfl | hx
    · exact ⟨Nat.zero_le _, fun j hj => absurd hj (Nat.not_lt_zero _)⟩
    rcases List.mem_cons.1 hx with rfl | hx
    · have h := I.se (t, k) (List.mem_cons_self)
      refine ⟨?_, ?_⟩
      · have := (List.getElem?_eq_some_iff.1 hw).1
        show k + 1 ≤ (E t).length; omega
      · intro j hj v hv
        have hj : j < k + 1 := hj
        by_cases e : j = k
        · subst e
          have hv : (E t)[j]? = some v := hv
          rw [hw] at hv
          cases hv; rw [if_pos rfl]
        · exact up v (h.2 j (by show j < k; omega) v hv)
    · have h := I.se x (List.mem_cons_of_mem _ hx)
      exact ⟨h.1, fun j hj v hv => up v (h.2 j hj v hv)⟩
  rc := fun v h => by
    by_cases e : v = w
    · subst e
      have ht : seen t = true := (I.sn t).2 (.inl (by simp))
      exact .step (I.rc t ht) (List.mem_of_getElem? hw) (fun h => h)
    · rw [if_neg e] at h; exact I.rc v h
  fp := fun a v b h hv => by
    obtain ⟨u, hu, h3⟩ := I.fp a v b h hv
    refine ⟨u, hu, ?_⟩
    rcases h3 with h3 | h3
    · exact .inl (List.mem_cons_of_mem _ h3)
    · exact .inr h3
  bl := ⟨List.mem_of_getElem? hw, I.bl⟩
  en := fun h => by cases h

/-- An order: all that is reached, once each, 0 first, each other one behind one that leads to it. -/
structure Ord (E : Nat → List Nat) (n : Nat) (L : List Nat) : Prop where
  nd : L.Nodup
  lt : ∀ v ∈ L, v < n
  rc : ∀ v, v ∈ L ↔ 0 < n ∧ Rc E v
  hd : ∀ h : 0 < L.length, L[0] = 0
  pr : ∀ i, 0 < i → ∀ h : i < L.length, ∃ j, ∃ hj : j < i, L[i] ∈ E (L[j]'(by omega))
theorem DInv.done {E : Nat → List Nat} {n : Nat} {seen : Nat → Bool} {fin : List Nat} (I : DInv E n seen [] fin) : Ord E n fin.reverse where
  nd := by
    have h := I.nd
    have h : fin.Nodup := by simpa using h
    exact List.pairwise_reverse.2 (h.imp (fun h => h.symm))
  lt := fun v hv => I.lt v ((I.sn v).2 (.inr (List.mem_reverse.1 hv)))
  rc := fun v => by
    rw [List.mem_reverse]
    constructor
    · intro h
      have hs := (I.sn v).2 (.inr h)
      exact ⟨by have := I.lt v hs; omega, I.rc v hs⟩
    · rintro ⟨hn, h⟩
      induction h with
      | root _ =>
        obtain ⟨a, e⟩ := I.en rfl hn
        rw [e]; simp
      | @step u v _ he _ ih =>
        have := I.fe u ih v he
        rcases (I.sn v).1 this with h | h
        · simp at h
        · exact h
  hd := fun h => by
    have h : 0 < fin.length := by simpa using h
    have hn : 0 < n := by
      have := I.lt fin[0] ((I.sn _).2 (.inr (List.getElem_mem h)))
      omega
    obtain ⟨a, e⟩ := I.en rfl hn
    subst e
    simp
  pr := fun i h0 h => by
    have h : i < fin.length := by simpa using h
    have e0 : fin.reverse[i]'(by simpa using h) = fin[fin.length - 1 - i]'(by omega) := List.getElem_reverse _
    have hs := List.take_append_drop (fin.length - 1 - i) fin
    rw [List.drop_eq_getElem_cons (by omega)] at hs
    have hv : fin[fin.length - 1 - i]'(by omega) ≠ 0 := fun hz => by
      have hn : 0 < n := by
        have := I.lt fin[0] ((I.sn _).2 (.inr (List.getElem_mem (by omega))))
        omega
      obtain ⟨a, e⟩ := I.en rfl hn
      have hnd : fin.Nodup := by have h := I.nd; simpa using h
      have h2 : fin[fin.length - 1]'(by omega) = 0 := by
        subst e; simp
      exact (List.pairwise_iff_getElem.1 hnd) (fin.length - 1 - i) (fin.length - 1) (by omega) (by omega) (by omega) (hz.trans h2.symm)
    obtain ⟨u, hu, h3⟩ := I.fp _ _ _ hs.symm hv
    rcases h3 with h3 | h3
    · simp at h3
    · obtain ⟨q, hq, e⟩ := List.getElem_of_mem h3
      rw [List.getElem_drop] at e
      rw [List.length_drop] at hq
      refine ⟨fin.length - 1 - (fin.length - 1 - i + 1 + q), by omega, ?_⟩
      rw [e0]
      have e1 : fin.reverse[fin.length - 1 - (fin.length - 1 - i + 1 + q)]'(by simp; omega) = u := by
        rw [List.getElem_reverse, ← e]
        congr 1
        omega
      rw [e1]; exact hu
end Go.Proofs.Ytlamooicofkjlaa.DfsP
