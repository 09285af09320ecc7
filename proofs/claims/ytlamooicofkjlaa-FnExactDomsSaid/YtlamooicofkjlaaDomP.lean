/- Plain theory: the nearest blocks on all ways, found by letting chains meet until nothing changes. No program is spoken of. -/
namespace Go.Proofs.Ytlamooicofkjlaa.DomP
set_option linter.unusedVariables false

/-- d is on y's chain. -/
inductive Anc (o : Nat → Nat) (d : Nat) : Nat → Prop
  | refl : Anc o d d
  | step {y : Nat} : y ≠ 0 → Anc o d (o y) → Anc o d y
theorem Anc.trans {o : Nat → Nat} {d e y : Nat} (h : Anc o d e) (k : Anc o e y) : Anc o d y := by
  induction k with
  | refl => exact h
  | step h0 _ ih => exact .step h0 ih
theorem Anc.up {o : Nat → Nat} {d y : Nat} (h : Anc o d y) (hn : d ≠ y) : y ≠ 0 ∧ Anc o d (o y) := by
  cases h with
  | refl => exact absurd rfl hn
  | step h0 h => exact ⟨h0, h⟩
def Tree (o : Nat → Nat) (P : Nat) : Prop := ∀ y, 0 < y → y < P → o y < y
theorem Anc.le {o : Nat → Nat} {P d y : Nat} (hT : Tree o P) (hy : y < P) (h : Anc o d y) : d ≤ y := by
  induction h with
  | refl => exact Nat.le_refl _
  | @step y h0 _ ih =>
    have := hT y (by omega) hy
    have := ih (by omega)
    omega
theorem anc_zero {o : Nat → Nat} {P : Nat} (hT : Tree o P) : ∀ y, y < P → Anc o 0 y := by
  intro y
  induction y using Nat.strongRecOn with
  | _ y ih =>
    intro hy
    by_cases h : y = 0
    · subst h; exact .refl
    · have := hT y (by omega) hy
      exact .step h (ih (o y) this (by omega))
/-- A chain is a line. -/
theorem Anc.line {o : Nat → Nat} {P a b : Nat} (hT : Tree o P) : ∀ y, y < P → Anc o a y → Anc o b y → a ≤ b → Anc o a b := by
  intro y
  induction y using Nat.strongRecOn with
  | _ y ih =>
    intro hy ha hb hab
    by_cases h : b = y
    · subst h; exact ha
    · obtain ⟨h0, hb'⟩ := hb.up h
      have hlt := hT y (by omega) hy
      have hle := Anc.le hT (by omega) hb'
      have hna : a ≠ y := by omega
      exact ih (o y) hlt (by omega) (ha.up hna).2 hb' hab
/-- Where chains meet. -/
def meet (o : Nat → Nat) : Nat → Nat → Nat → Nat
  | 0, a, _ => a
  | k + 1, a, b => if a = b then a else if b < a then meet o k (o a) b else meet o k a (o b)
theorem meet_is {o : Nat → Nat} {P : Nat} (hT : Tree o P) (k : Nat) : ∀ a b, a < P → b < P → a + b < k → (∀ d, Anc o d (meet o k a b) ↔ Anc o d a ∧ Anc o d b) ∧ meet o k a b < P := by
  induction k with
  | zero => intro a b _ _ h; omega
  | succ k ih =>
    intro a b ha hb hk
    rw [meet]
    by_cases h : a = b
    · rw [if_pos h]; subst h; exact ⟨fun d => ⟨fun h => ⟨h, h⟩, fun h => h.1⟩, ha⟩
    · rw [if_neg h]
      by_cases h2 : b < a
      · rw [if_pos h2]
        have hlt := hT a (by omega) ha
        obtain ⟨i1, i2⟩ := ih (o a) b (by omega) hb (by omega)
        refine ⟨fun d => ?_, i2⟩
        rw [i1 d]
        refine ⟨fun ⟨x, y⟩ => ⟨.step (by omega) x, y⟩, fun ⟨x, y⟩ => ⟨?_, y⟩⟩
        have := Anc.le hT hb y
        exact (x.up (by omega)).2
      · rw [if_neg h2]
        have hlt := hT b (by omega) hb
        obtain ⟨i1, i2⟩ := ih a (o b) ha (by omega) (by omega)
        refine ⟨fun d => ?_, i2⟩
        rw [i1 d]
        refine ⟨fun ⟨x, y⟩ => ⟨x, .step (by omega) y⟩, fun ⟨x, y⟩ => ⟨x, ?_⟩⟩
        have := Anc.le hT ha x
        exact (y.up (by omega)).2

/-- Reached from 0 by edges, not through what av tells. -/
inductive Rch (ed : Nat → Nat → Prop) (av : Nat → Prop) : Nat → Prop
  | root : ¬ av 0 → Rch ed av 0
  | step {u v : Nat} : Rch ed av u → ed u v → ¬ av v → Rch ed av v
theorem Rch.not {ed : Nat → Nat → Prop} {av : Nat → Prop} {y : Nat} (h : Rch ed av y) : ¬ av y := by cases h <;> assumption
/-- Reached without d. -/
abbrev RA (ed : Nat → Nat → Prop) (d y : Nat) : Prop := Rch ed (fun x => x = d) y
def upd (o : Nat → Nat) (c z : Nat) : Nat → Nat := fun y => if y = c then z else o y
theorem upd_at (o : Nat → Nat) (c z : Nat) : upd o c z c = z := by unfold upd; rw [if_pos rfl]
theorem upd_ne (o : Nat → Nat) {c y : Nat} (z : Nat) (h : y ≠ c) : upd o c z y = o y := by unfold upd; rw [if_neg h]
/-- Below c nothing has changed. -/
theorem upd_low {o : Nat → Nat} {P c z d : Nat} (hT : Tree o P) : ∀ y, y < P → y < c → (Anc (upd o c z) d y ↔ Anc o d y) := by
  intro y
  induction y using Nat.strongRecOn with
  | _ y ih =>
    intro hy hc
    by_cases h : d = y
    · subst h; exact ⟨fun _ => .refl, fun _ => .refl⟩
    · by_cases h0 : y = 0
      · subst h0
        exact ⟨fun k => absurd rfl (k.up h).1, fun k => absurd rfl (k.up h).1⟩
      · have hlt := hT y (by omega) hy
        have e := ih (o y) hlt (by omega) (by omega)
        have hu := upd_ne o (y := y) (c := c) z (by omega)
        exact ⟨fun k => .step h0 (e.1 (by have := (k.up h).2; rwa [hu] at this)), fun k => .step h0 (by rw [hu]; exact e.2 (k.up h).2)⟩

section
variable (ed : Nat → Nat → Prop)
structure Inv (P c : Nat) (o : Nat → Nat) : Prop where
  T : Tree o P
  K : ∀ y, 0 < y → y < P → ∀ d, (∀ p, p < P → ed p y → Anc o d p) → Anc o d y
  M1 : ∀ y, 0 < y → y < P → y < c → ∀ p, p < y → ed p y → Anc o (o y) p
  M2 : ∀ y, 0 < y → y < P → c ≤ y → ∀ p, p < y → ed p y → ∀ b, Anc o b y → b ≠ y → c ≤ b → Anc o b p
  D : ∀ y, y < P → ∀ d, ¬ RA ed d y → Anc o d y
variable {ed : Nat → Nat → Prop}
theorem Inv.start (o : Nat → Nat) : Inv ed 1 1 o where
  T := fun y h0 h1 => by omega
  K := fun y h0 h1 => by omega
  M1 := fun y h0 h1 => by omega
  M2 := fun y h0 h1 => by omega
  D := fun y h d hd => by
    obtain rfl : y = 0 := by omega
    by_cases e : d = 0
    · subst e; exact .refl
    · exact absurd (Rch.root (fun h => e h.symm)) hd
/-- The next pass. -/
theorem Inv.again {m : Nat} {o : Nat → Nat} (h : Inv ed m m o) : Inv ed m 1 o where
  T := h.T
  K := h.K
  M1 := fun y h0 _ h1 => by omega
  M2 := fun y h0 h1 _ p hp he b hb hn _ => (hb.up hn).2.trans (h.M1 y h0 h1 h1 p hp he)
  D := h.D
/-- From what is on y's chain a way leads to y, by none that is lower. -/
theorem Inv.way {P c : Nat} {o : Nat → Nat} (h : Inv ed P c o) (hpar : ∀ y, 0 < y → y < P → ∃ p, p < y ∧ ed p y) {x d : Nat} (hx : c ≤ x) (hd : d < x) (hr : RA ed d x) : ∀ y, y < P → Anc o x y → RA ed d y := by
  intro y
  induction y using Nat.strongRecOn with
  | _ y ih =>
    intro hy ha
    by_cases e : x = y
    · subst e; exact hr
    · have hle := Anc.le h.T hy ha
      obtain ⟨p, hp, he⟩ := hpar y (by omega) hy
      have hxp : Anc o x p := h.M2 y (by omega) hy (by omega) p hp he x ha e hx
      exact .step (ih p hp (by omega) hxp) he (by omega)
/-- What a pred's chain tells of those that are over. -/
theorem over_pred {d p y : Nat} (he : ed p y) (h : ¬ RA ed d y) (hn : d ≠ y) : ¬ RA ed d p := fun hr => h (.step hr he (fun e => hn e.symm))
/-- The next block is set, or set anew. -/
theorem Inv.next {P P' c z : Nat} {o : Nat → Nat} (h : Inv ed P c o) (hP : P' = P ∧ c < P ∨ P = c ∧ P' = c + 1) (hc0 : 0 < c) (hpar : ∀ y, 0 < y → y < P' → ∃ p, p < y ∧ ed p y)
    (hz : ∀ d, Anc o d z ↔ ∀ p, p < P → ed p c → Anc o d p) : Inv ed P' (c + 1) (upd o c z) ∧ z < c ∧ (c < P → z ≤ o c) := by
  have hPP : P ≤ P' ∧ c < P' ∧ c ≤ P ∧ (∀ y, y < P' → y ≠ c → y < P) := by rcases hP with ⟨h1, h2⟩ | ⟨h1, h2⟩ <;> exact ⟨by omega, by omega, by omega, fun y _ _ => by omega⟩
  obtain ⟨hp1, hp2, hp3, hp4⟩ := hPP
  obtain ⟨p0, hp0, he0⟩ := hpar c hc0 hp2
  have hzp : Anc o z p0 := (hz z).1 .refl p0 (by omega) he0
  have hzc : z < c := by have := Anc.le h.T (by omega) hzp; omega
  have hT' : Tree (upd o c z) P' := fun y h0 h1 => by
    by_cases e : y = c
    · subst e; rw [upd_at]; exact hzc
    · rw [upd_ne o z e]; exact h.T y h0 (hp4 y h1 e)
  -- the old chain of c goes through z
  have hold : c < P → Anc o z (o c) := fun hcP => by
    have := h.K c hc0 hcP z (fun p hp he => (hz z).1 .refl p hp he)
    exact (this.up (by omega)).2
  have hzle : c < P → z ≤ o c := fun hcP => Anc.le h.T (by have := h.T c hc0 hcP; omega) (hold hcP)
  -- chains shrink
  have hsh : ∀ y, y < P → ∀ d, Anc (upd o c z) d y → Anc o d y := by
    intro y
    induction y using Nat.strongRecOn with
    | _ y ih =>
      intro hy d hd
      by_cases e : d = y
      · subst e; exact .refl
      · obtain ⟨h0, hu⟩ := hd.up e
        by_cases ec : y = c
        · subst ec
          rw [upd_at] at hu
          have hl := (upd_low (o := o) (P := P) (c := y) (z := z) (d := d) h.T z (by omega) hzc).1 hu
          exact .step h0 (hl.trans (hold hy))
        · rw [upd_ne o z ec] at hu
          have hlt := h.T y (by omega) hy
          exact .step h0 (ih (o y) hlt (by omega) d hu)
  -- what does not go through c is as it was
  have hstay : ∀ y, y < P → ∀ d, Anc o d y → ¬ Anc o c y → Anc (upd o c z) d y := by
    intro y
    induction y using Nat.strongRecOn with
    | _ y ih =>
      intro hy d hd hnc
      by_cases e : d = y
      · subst e; exact .refl
      · obtain ⟨h0, hu⟩ := hd.up e
        have ec : y ≠ c := fun e => hnc (by rw [e]; exact .refl)
        have hlt := h.T y (by omega) hy
        exact .step h0 (by rw [upd_ne o z ec]; exact ih (o y) hlt (by omega) d hu (fun k => hnc (.step h0 k)))
  -- what is at c or below stays
  have hlow : ∀ y, y < P → ∀ d, Anc o d y → c ≤ d → Anc (upd o c z) d y := by
    intro y
    induction y using Nat.strongRecOn with
    | _ y ih =>
      intro hy d hd hcd
      by_cases e : d = y
      · subst e; exact .refl
      · obtain ⟨h0, hu⟩ := hd.up e
        have hle := Anc.le h.T (by have := h.T y (by omega) hy; omega) hu
        have hlt := h.T y (by omega) hy
        have ec : y ≠ c := by omega
        exact .step h0 (by rw [upd_ne o z ec]; exact ih (o y) hlt (by omega) d hu hcd)
  -- the chain of c now
  have hcN : ∀ d, d ≠ c → (Anc (upd o c z) d c ↔ Anc o d z) := fun d hn => by
    have e := upd_low (o := o) (P := P) (c := c) (z := z) (d := d) h.T z (by omega) hzc
    refine ⟨fun k => ?_, fun k => ?_⟩
    · have := (k.up hn).2; rw [upd_at] at this; exact e.1 this
    · exact .step (by omega) (by rw [upd_at]; exact e.2 k)
  -- what goes through c has what c has now
  have hthru : ∀ y, y < P → Anc o c y → ∀ d, Anc o d z → Anc (upd o c z) d y := fun y hy hcy d hd => by
    have hdz := Anc.le h.T (by omega) hd
    exact ((hcN d (by omega)).2 hd).trans (hlow y hy c hcy (Nat.le_refl _))
  refine ⟨⟨hT', ?_, ?_, ?_, ?_⟩, hzc, hzle⟩
  · -- K
    intro y h0 hy d hall
    by_cases ec : y = c
    · subst ec
      by_cases e : d = y
      · subst e; exact .refl
      · refine (hcN d e).2 ((hz d).2 fun p hp he => ?_)
        exact hsh p hp d (hall p (by omega) he)
    · have hyP := hp4 y hy ec
      have hod : Anc o d y := h.K y h0 hyP d (fun p hp he => hsh p hp d (hall p (by omega) he))
      by_cases hcy : Anc o c y
      · -- c on the chain: a pred below has c, too
        obtain ⟨p, hp, he⟩ := hpar y h0 hy
        by_cases hcd : c ≤ d
        · exact hlow y hyP d hod hcd
        · have hcy' : c ≤ y := Anc.le h.T hyP hcy
          have hcp : Anc o c p := h.M2 y h0 hyP hcy' p hp he c hcy (fun e => ec e.symm) (Nat.le_refl _)
          have hdp := hall p (by omega) he
          -- d is on p's chain now, above c: it is on c's chain now
          have hcp' := hlow p (by omega) c hcp (Nat.le_refl _)
          have hdc : Anc (upd o c z) d c := Anc.line (P := P') hT' p (by omega) hdp hcp' (by omega)
          have hdz := (hcN d (by omega)).1 hdc
          exact hthru y hyP hcy d hdz
      · exact hstay y hyP d hod hcy
  · -- M1
    intro y h0 hy hyc p hp he
    by_cases ec : y = c
    · subst ec
      rw [upd_at]
      have := (hz z).1 .refl p (by omega) he
      exact (upd_low h.T p (by omega) hp).2 this
    · have hyP := hp4 y hy ec
      rw [upd_ne o z ec]
      exact (upd_low h.T p (by omega) (by omega)).2 (h.M1 y h0 hyP (by omega) p hp he)
  · -- M2
    intro y h0 hy hyc p hp he b hb hn hbc
    have ec : y ≠ c := by omega
    have hyP := hp4 y hy ec
    have hbo := hsh y hyP b hb
    exact hlow p (by omega) b (h.M2 y h0 hyP (by omega) p hp he b hbo hn (by omega)) (by omega)
  · -- D
    intro y hy d hd
    by_cases ec : y = c
    · subst ec
      by_cases e : d = y
      · subst e; exact .refl
      · exact (hcN d e).2 ((hz d).2 fun p hp he => h.D p hp d (over_pred he hd e))
    · have hyP := hp4 y hy ec
      have hod := h.D y hyP d hd
      by_cases hcy : Anc o c y
      · by_cases hcd : c ≤ d
        · exact hlow y hyP d hod hcd
        · by_cases hrc : RA ed d c
          · exact absurd (h.way (fun y h0 h1 => hpar y h0 (by omega)) (Nat.le_refl c) (by omega) hrc y hyP hcy) hd
          · exact hthru y hyP hcy d ((hz d).2 fun p hp he => h.D p hp d (over_pred he hrc (by omega)))
      · exact hstay y hyP d hod hcy
/-- Where a pass changes nothing, the chains are what is on all ways. -/
theorem fix {m : Nat} {o : Nat → Nat} (hT : Tree o m) (hin : ∀ u v, u < m → ed u v → v < m) (hm : 0 < m) (hD : ∀ y, y < m → ∀ d, ¬ RA ed d y → Anc o d y)
    (hfix : ∀ y, 0 < y → y < m → ∀ d, Anc o d (o y) → ∀ p, p < m → ed p y → Anc o d p) : ∀ y, y < m → ∀ d, Anc o d y ↔ ¬ RA ed d y := by
  intro y hy d
  refine ⟨fun ha hr => ?_, fun h => hD y hy d h⟩
  have key : ∀ y, RA ed d y → y < m ∧ ¬ Anc o d y := by
    intro y hr
    induction hr with
    | root h0 =>
      refine ⟨hm, fun k => ?_⟩
      have := Anc.le hT hm k
      exact h0 (by omega)
    | @step u v hu he hv ih =>
      obtain ⟨hum, hn⟩ := ih
      have hvm := hin u v hum he
      refine ⟨hvm, fun k => ?_⟩
      obtain ⟨h0, k2⟩ := k.up (fun e => hv e.symm)
      exact hn (hfix v (by omega) hvm d k2 u hum he)
  exact (key y hr).2 ha
end

end Go.Proofs.Ytlamooicofkjlaa.DomP
