/- Plain theory of the passes of (*impl.Fn).doms. -/
import Derived.Test.YtlamooicofkjlaaDmiFnExactDoms
import Derived.Test.YtlamooicofkjlaaPassP
namespace Go.Proofs.Ytlamooicofkjlaa.DmFnExactDoms
open Go.RowKit Go.Proofs.Ytlamooicofkjlaa.QFnExactDoms Go.Proofs.YtlamooicofkjlaaW.PrintWords Go.Proofs.Ytlamooicofkjlaa.SrFnExactDoms Go.Proofs.Ytlamooicofkjlaa.DomP Go.Proofs.Ytlamooicofkjlaa.PassP
open Go.Proofs.Ytlamooicofkjlaa.DfsP (Ord Rc)
open Go.Proofs.Ytlamooicofkjlaa.NearP (re Near near)
set_option linter.unusedVariables false

section
variable {E : Nat → List Nat} {n : Nat} {L : List Nat} (O : Ord E n L)
theorem at_get {L : List Nat} {j : Nat} (h : j < L.length) : at' L j = L[j] := by
  unfold at'; rw [List.getD_eq_getElem?_getD, List.getElem?_eq_getElem h]; rfl
include O
theorem at_inj {i j : Nat} (hi : i < L.length) (hj : j < L.length) (e : at' L i = at' L j) : i = j := by
  rw [at_get hi, at_get hj] at e
  exact Go.Proofs.Ytlamooicofkjlaa.NearP.inj O hi hj e
theorem at_lt {j : Nat} (h : j < L.length) : at' L j < n := by
  rw [at_get h]; exact O.lt _ (List.getElem_mem h)
theorem at_zero (h : 0 < L.length) : at' L 0 = 0 := by rw [at_get h]; exact O.hd h
theorem par {y : Nat} (h0 : 0 < y) (hy : y < L.length) : ∃ p, p < y ∧ re E L p y := by
  obtain ⟨j, hj, h⟩ := O.pr y h0 hy
  exact ⟨j, hj, by omega, hy, h⟩

/-- Between passes. -/
def Begin (E : Nat → List Nat) (L : List Nat) (P : Nat) (o : Nat → Nat) : Prop := o 0 = 0 ∧ (P = 0 ∨ P = L.length ∧ Inv (re E L) L.length L.length o)
/-- Within a pass, at place c, behind the first. -/
structure Pass (E : Nat → List Nat) (L : List Nat) (c : Nat) (ag : Bool) (P : Nat) (o : Nat → Nat) (W0 : Nat) : Prop where
  inv : Inv (re E L) P c o
  z0 : o 0 = 0
  lo : c ≤ P
  hi : P ≤ L.length
  or_ : P = L.length ∨ P = c
  le : wt L.length P o L.length ≤ W0
  no : ag = false → ∀ y, 0 < y → y < c → ∀ d, Anc o d (o y) → ∀ p, p < P → re E L p y → Anc o d p
  yes : ag = true → wt L.length P o L.length < W0
omit O in
theorem upd_same (o : Nat → Nat) (c : Nat) : upd o c (o c) = o := by
  funext y; unfold upd; split
  · next h => rw [h]
  · rfl
omit O in
theorem Pass.start {P : Nat} {o : Nat → Nat} (h : Begin E L P o) (hL : 0 < L.length) : Pass E L 1 false (if P = 0 then 1 else P) o (wt L.length P o L.length) := by
  obtain ⟨h0, h1⟩ := h
  rcases h1 with rfl | ⟨rfl, hI⟩
  · rw [if_pos rfl]
    refine ⟨Inv.start o, h0, Nat.le_refl _, hL, .inr rfl, ?_, fun _ y h1 h2 => by omega, fun h => by cases h⟩
    have := (wt_upd (m := L.length) (P := 0) (P' := 1) (c := 0) (z := 0) (o := o) (.inr ⟨rfl, rfl⟩) hL (fun h => by omega) L.length).1
    rw [show upd o 0 0 = o from by have := upd_same o 0; rw [h0] at this; exact this] at this
    exact this
  · rw [if_neg (by omega)]
    exact ⟨hI.again, h0, hL, Nat.le_refl _, .inl rfl, Nat.le_refl _, fun _ y h1 h2 => by omega, fun h => by cases h⟩
theorem Pass.next {c P W0 z : Nat} {ag : Bool} {o : Nat → Nat} (h : Pass E L c ag P o W0) (hc0 : 0 < c) (hc : c < L.length) (hz : ∀ d, Anc o d z ↔ ∀ p, p < P → re E L p c → Anc o d p) (b : Bool) (hb : b = true ↔ ¬ (c < P ∧ z = o c)) :
    Pass E L (c + 1) (ag || b) (if c < P then P else P + 1) (upd o c z) W0 ∧ z < c := by
  have hP : (if c < P then P else P + 1) = P ∧ c < P ∨ P = c ∧ (if c < P then P else P + 1) = c + 1 := by
    by_cases hcp : c < P
    · rw [if_pos hcp]; exact .inl ⟨rfl, hcp⟩
    · rw [if_neg hcp]; have := h.lo; exact .inr ⟨by omega, by omega⟩
  have hor : (if c < P then P else P + 1) = L.length ∨ (if c < P then P else P + 1) = c + 1 := by
    rcases hP with ⟨h1, h2⟩ | ⟨h1, h2⟩
    · rw [h1]; rcases h.or_ with h3 | h3 <;> omega
    · exact .inr h2
  have hhi : (if c < P then P else P + 1) ≤ L.length := by
    have := h.hi
    rcases hP with ⟨h1, h2⟩ | ⟨h1, h2⟩ <;> omega
  have hlo : c + 1 ≤ (if c < P then P else P + 1) := by rcases hP with ⟨h1, h2⟩ | ⟨h1, h2⟩ <;> omega
  generalize (if c < P then P else P + 1) = P' at *
  obtain ⟨i1, i2, i3⟩ := h.inv.next hP hc0 (fun y h0 h1 => par O h0 (by omega)) hz
  have hw := wt_upd (m := L.length) hP (by omega : z < L.length) i3 L.length
  refine ⟨⟨i1, by rw [upd_ne o z (by omega)]; exact h.z0, hlo, hhi, hor, Nat.le_trans hw.1 h.le, fun ha => ?_, fun ha => ?_⟩, i2⟩
  · rw [Bool.or_eq_false_iff] at ha
    have hnb : c < P ∧ z = o c := by
      by_cases hx : c < P ∧ z = o c
      · exact hx
      · have := hb.2 hx; rw [ha.2] at this; cases this
    obtain ⟨h1, h2⟩ := hnb
    have hPP : P' = P := by rcases hP with ⟨h3, h4⟩ | ⟨h3, h4⟩ <;> omega
    rw [h2, upd_same, hPP]
    intro y h0 hy d hd p hp he
    by_cases e : y = c
    · subst e
      rw [← h2] at hd
      exact (hz d).1 hd p hp he
    · exact h.no ha.1 y h0 (by omega) d hd p hp he
  · rw [Bool.or_eq_true] at ha
    rcases ha with ha | ha
    · exact Nat.lt_of_le_of_lt hw.1 (h.yes ha)
    · have hx := hb.1 ha
      exact Nat.lt_of_lt_of_le (hw.2 hc (fun h1 h2 => hx ⟨h1, h2⟩)) h.le
omit O in
theorem Pass.done {P W0 : Nat} {ag : Bool} {o : Nat → Nat} (h : Pass E L L.length ag P o W0) : P = L.length ∧ Begin E L P o := by
  have := h.lo; have := h.hi
  obtain rfl : P = L.length := by omega
  exact ⟨rfl, h.z0, .inr ⟨rfl, h.inv⟩⟩
/-- A pass has changed nothing: what was found is nearest. -/
theorem found {W0 : Nat} {o : Nat → Nat} (hp : Pass E L L.length false L.length o W0) (hin : ∀ u v, Rc E u → v ∈ E u → v < n) {y : Nat} (h0 : 0 < y) (hy : y < L.length) : Near E (at' L y) (at' L (o y)) := by
  have hT := hp.inv.T
  have hm : 0 < L.length := by omega
  have hA := fix (ed := re E L) hT (fun u v hu he => he.2.1) hm hp.inv.D (fun y h0 hy d hd p hp2 he => hp.no rfl y h0 hy d hd p hp2 he)
  obtain ⟨h1, h2⟩ := near O hT hA h0 hy
  rw [at_get hy, at_get h1]; exact h2

/-- What is nearest among the first k that lead to c. -/
def NearSt (L : List Nat) (P : Nat) (o : Nat → Nat) (Q : List Nat) (k : Nat) (x : Int) : Prop :=
  (x = -2 ∧ ∀ q ∈ Q.take k, ∀ p, p < P → at' L p ≠ q) ∨ (∃ z, z < P ∧ x = ((at' L z : Nat) : Int) ∧ ∀ d, Anc o d z ↔ ∀ q ∈ Q.take k, ∀ p, p < P → at' L p = q → Anc o d p)
omit O in
theorem NearSt.start (P : Nat) (o : Nat → Nat) (Q : List Nat) : NearSt L P o Q 0 (-2) := .inl ⟨rfl, fun q hq => by rw [List.take_zero] at hq; cases hq⟩
omit O in
theorem take_mem {Q : List Nat} {k q x : Nat} (hk : Q[k]? = some x) : q ∈ Q.take (k + 1) ↔ q ∈ Q.take k ∨ q = x := by
  rw [List.take_add_one, hk]; simp
omit O in
theorem NearSt.skip {P : Nat} {o : Nat → Nat} {Q : List Nat} {k x : Nat} {y : Int} (h : NearSt L P o Q k y) (hk : Q[k]? = some x) (hx : ∀ p, p < P → at' L p ≠ x) : NearSt L P o Q (k + 1) y := by
  rcases h with ⟨h1, h2⟩ | ⟨z, hz, h1, h2⟩
  · refine .inl ⟨h1, fun q hq p hp => ?_⟩
    rcases (take_mem hk).1 hq with h3 | rfl
    · exact h2 q h3 p hp
    · exact hx p hp
  · refine .inr ⟨z, hz, h1, fun d => ?_⟩
    rw [h2 d]
    constructor
    · intro h q hq p hp e
      rcases (take_mem hk).1 hq with h3 | rfl
      · exact h q h3 p hp e
      · exact absurd e (hx p hp)
    · intro h q hq p hp e
      exact h q ((take_mem hk).2 (.inl hq)) p hp e
theorem NearSt.first {P : Nat} {o : Nat → Nat} {Q : List Nat} {k p0 : Nat} (hP : P ≤ L.length) (h : NearSt L P o Q k (-2)) (hk : Q[k]? = some (at' L p0)) (hp0 : p0 < P) : NearSt L P o Q (k + 1) ((at' L p0 : Nat) : Int) := by
  rcases h with ⟨_, h2⟩ | ⟨z, hz, h1, h2⟩
  · refine .inr ⟨p0, hp0, rfl, fun d => ⟨fun h q hq p hp e => ?_, fun h => ?_⟩⟩
    · rcases (take_mem hk).1 hq with h3 | h3
      · exact absurd e (h2 q h3 p hp)
      · rw [h3] at e
        have := at_inj O (by omega) (by omega) e
        rw [this]; exact h
    · exact h (at' L p0) ((take_mem hk).2 (.inr rfl)) p0 hp0 rfl
  · omega
theorem NearSt.meet {P : Nat} {o : Nat → Nat} {Q : List Nat} {k p0 z : Nat} (hP : P ≤ L.length) (hT : Tree o P) (hz : z < P) (h : NearSt L P o Q k ((at' L z : Nat) : Int)) (hk : Q[k]? = some (at' L p0)) (hp0 : p0 < P) :
    NearSt L P o Q (k + 1) ((at' L (DomP.meet o (z + p0 + 1) z p0) : Nat) : Int) ∧ DomP.meet o (z + p0 + 1) z p0 < P := by
  obtain ⟨m1, m2⟩ := meet_is hT (z + p0 + 1) z p0 hz hp0 (by omega)
  refine ⟨?_, m2⟩
  rcases h with ⟨h1, _⟩ | ⟨z2, hz2, h1, h2⟩
  · omega
  · obtain rfl : z = z2 := at_inj O (by omega) (by omega) (by omega)
    refine .inr ⟨_, m2, rfl, fun d => ?_⟩
    rw [m1 d, h2 d]
    constructor
    · rintro ⟨h3, h4⟩ q hq p hp e
      rcases (take_mem hk).1 hq with h5 | h5
      · exact h3 q h5 p hp e
      · rw [h5] at e
        have := at_inj O (by omega) (by omega) e
        rw [this]; exact h4
    · intro h3
      exact ⟨fun q hq p hp e => h3 q ((take_mem hk).2 (.inl hq)) p hp e, h3 (at' L p0) ((take_mem hk).2 (.inr rfl)) p0 hp0 rfl⟩
omit O in
theorem NearSt.set {P : Nat} {o : Nat → Nat} {Q : List Nat} {k : Nat} {y : Int} (h : NearSt L P o Q k y) (hy : y ≠ -2) : ∃ z, z < P ∧ y = ((at' L z : Nat) : Int) := by
  rcases h with ⟨h1, _⟩ | ⟨z, hz, h1, _⟩
  · exact absurd h1 hy
  · exact ⟨z, hz, h1⟩
omit O in
theorem NearSt.unset {P : Nat} {o : Nat → Nat} {Q : List Nat} {k z : Nat} (h : NearSt L P o Q k ((at' L z : Nat) : Int)) : True := trivial
/-- All that lead to c have been looked at. -/
theorem NearSt.done {c P : Nat} {o : Nat → Nat} {Q : List Nat} {y : Int} (hQ : ∀ u, u ∈ Q ↔ u < n ∧ at' L c ∈ E u) (h : NearSt L P o Q Q.length y) (hc0 : 0 < c) (hc : c < L.length) (hcP : c ≤ P) (hP : P ≤ L.length) :
    ∃ z, z < P ∧ y = ((at' L z : Nat) : Int) ∧ ∀ d, Anc o d z ↔ ∀ p, p < P → re E L p c → Anc o d p := by
  unfold NearSt at h
  rw [List.take_length] at h
  have hre : ∀ p, p < P → (re E L p c ↔ at' L p ∈ Q) := fun p hp => by
    rw [hQ]
    constructor
    · rintro ⟨h1, h2, h3⟩
      rw [at_get h1, at_get h2]
      exact ⟨O.lt _ (List.getElem_mem h1), h3⟩
    · rintro ⟨h1, h2⟩
      have hpl : p < L.length := by omega
      rw [at_get hpl, at_get hc] at h2
      exact ⟨hpl, hc, h2⟩
  rcases h with ⟨_, h2⟩ | ⟨z, hz, h1, h2⟩
  · obtain ⟨p, hp, he⟩ := par O hc0 hc
    exact absurd rfl (h2 (at' L p) ((hre p (by omega)).1 he) p (by omega))
  · refine ⟨z, hz, h1, fun d => ?_⟩
    rw [h2 d]
    constructor
    · intro h p hp he
      exact h _ ((hre p hp).1 he) p hp rfl
    · intro h q hq p hp e
      subst e
      exact h p hp ((hre p hp).2 hq)

/-- The nearest, one set anew. -/
theorem Outs.root {P : Nat} {o : Nat → Nat} {fo : Nat → Int} (h : Outs L n P o fo) (h0 : o 0 = 0) (hL : 0 < L.length) : Outs L n (if P = 0 then 1 else P) o (put fo (at' L 0) ((at' L 0 : Nat) : Int)) := by
  have hP := h.le
  have hle : (if P = 0 then 1 else P) ≤ L.length := by split <;> omega
  refine ⟨hle, fun j hj => ?_, fun v hv hn => ?_⟩
  · by_cases e : j = 0
    · subst e
      rw [h0, put_at]; exact ⟨by omega, rfl⟩
    · have hjP : j < P := by split at hj <;> omega
      obtain ⟨h1, h2⟩ := h.at_ j hjP
      refine ⟨by split <;> omega, ?_⟩
      unfold put
      rw [if_neg (fun e2 => e (at_inj O (by omega) hL e2))]
      exact h2
  · have h1 := hn 0 (by split <;> omega)
    unfold put
    rw [if_neg (fun e => h1 e.symm)]
    exact h.no v hv (fun j hj => hn j (by split <;> omega))
theorem Outs.set {c P z : Nat} {o : Nat → Nat} {fo : Nat → Int} (h : Outs L n P o fo) (hcP : c ≤ P) (hc : c < L.length) (hz : z < c) : Outs L n (if c < P then P else P + 1) (upd o c z) (put fo (at' L c) ((at' L z : Nat) : Int)) := by
  have hP := h.le
  have hle : (if c < P then P else P + 1) ≤ L.length := by split <;> omega
  have hPl : P ≤ (if c < P then P else P + 1) := by split <;> omega
  have hcl : c < (if c < P then P else P + 1) := by split <;> omega
  have hup : ∀ j, j < (if c < P then P else P + 1) → j ≠ c → j < P := fun j hj hne => by split at hj <;> omega
  generalize (if c < P then P else P + 1) = P' at *
  refine ⟨hle, fun j hj => ?_, fun v hv hn => ?_⟩
  · by_cases e : j = c
    · subst e
      rw [upd_at, put_at]; exact ⟨by omega, rfl⟩
    · obtain ⟨h1, h2⟩ := h.at_ j (hup j hj e)
      rw [upd_ne o z e]
      refine ⟨by omega, ?_⟩
      unfold put
      rw [if_neg (fun e2 => e (at_inj O (by omega) hc e2))]
      exact h2
  · have h1 := hn c hcl
    unfold put
    rw [if_neg (fun e => h1 e.symm)]
    exact h.no v hv (fun j hj => hn j (by omega))
omit O in
theorem Outs.old {P : Nat} {o : Nat → Nat} {fo : Nat → Int} (h : Outs L n P o fo) {v : Nat} (hv : v < n) : fo v = -2 ∧ (∀ p, p < P → at' L p ≠ v) ∨ fo v ≠ -2 ∧ ∃ p, p < P ∧ at' L p = v := by
  by_cases hx : ∃ p, p < P ∧ at' L p = v
  · obtain ⟨p, hp, e⟩ := hx
    refine .inr ⟨?_, p, hp, e⟩
    have := (h.at_ p hp).2
    rw [e] at this
    omega
  · have h2 : ∀ p, p < P → at' L p ≠ v := fun p hp e => hx ⟨p, hp, e⟩
    exact .inl ⟨h.no v hv h2, h2⟩
omit O in
theorem Outs.start (L : List Nat) (n : Nat) : Outs L n 0 (fun _ => 0) (fun _ => -2) := ⟨Nat.zero_le _, fun j hj => by omega, fun v _ _ => rfl⟩
theorem ranks {fr : Nat → Int} (h : ∀ j, j < L.length → fr (at' L j) = (j : Int)) : Ranks L n fr := ⟨fun j hj => at_lt O hj, h⟩

/-- The answer. -/
theorem answer {W0 : Nat} {o : Nat → Nat} {fo : Nat → Int} (hp : Pass E L L.length false L.length o W0) (ho : Outs L n L.length o fo) (hin : ∀ u v, Rc E u → v ∈ E u → v < n) (hn : 0 < n) (f : Nat → Int) (hf : ∀ v, v < n → f v = if v = 0 ∨ fo v = -2 then -1 else fo v)
    (huniq : ∀ v t1 t2, Near E v t1 → Near E v t2 → t1 = t2) : IsDoms E n (tab n f) := by
  have hL : ∀ v, v ∈ L ↔ Rc E v := fun v => by rw [O.rc v]; exact ⟨fun h => h.2, fun h => ⟨hn, h⟩⟩
  refine ⟨tab_len n f, fun v hv h => ?_, fun v t hv ht hN => ?_⟩
  · rw [tab_at n f v hv, hf v hv]
    rcases h with h | h
    · rw [if_pos (.inl h)]
    · rw [if_pos (.inr (ho.no v hv (fun j hj e => h ((hL v).1 (by rw [← e, at_get hj]; exact List.getElem_mem hj)))))]
  · rw [tab_at n f v hv, hf v hv]
    obtain ⟨y, hy, e⟩ := List.getElem_of_mem ((hL v).2 hN.sd.2.1)
    have e2 : at' L y = v := by rw [at_get hy]; exact e
    have hv0 : v ≠ 0 := fun hz => by
      have h1 := hN.sd
      subst hz
      -- 0 is reached without any other block
      exact h1.2.2 (.root (fun h => h1.1 (by omega)))
    have hy0 : 0 < y := by
      rcases Nat.eq_zero_or_pos y with h | h
      · subst h; rw [at_zero O hy] at e2; exact absurd e2.symm hv0
      · exact h
    obtain ⟨h1, h2⟩ := ho.at_ y hy
    rw [e2] at h2
    rw [if_neg (by omega), h2]
    have h3 := found O hp hin hy0 hy
    rw [e2] at h3
    rw [huniq v _ _ h3 hN]
end
theorem near_uniq {E : Nat → List Nat} {v t1 t2 : Nat} (h1 : Near E v t1) (h2 : Near E v t2) : t1 = t2 := by
  by_cases e : t1 = t2
  · exact e
  · have a1 := (h1.up t2 h2.sd (fun h => e h.symm)).1
    have a2 := (h2.up t1 h1.sd e).2 t2 a1
    exact absurd rfl a2.1
theorem edge_lt {B : List S70} (hE : EdgesIn B) {u v : Nat} (h : v ∈ E B u) : v < B.length := by
  unfold E at h
  obtain ⟨e, he, rfl⟩ := List.mem_map.1 h
  have := hE.ok u e he
  omega
/-- All that is reached, but for the first, has a nearest. -/
def Tot (E : Nat → List Nat) (n : Nat) : Prop := ∀ v, v < n → v ≠ 0 → Rc E v → ∃ t, t < n ∧ Near E v t
theorem isdoms_eq {E : Nat → List Nat} {n : Nat} {r1 r2 : List Int} (hT : Tot E n) (h1 : IsDoms E n r1) (h2 : IsDoms E n r2) : r1 = r2 := by
  apply List.ext_getElem (by rw [h1.len, h2.len])
  intro v hv1 hv2
  have hv : v < n := by rw [← h1.len]; exact hv1
  have key : rd r1 (v : Int) = rd r2 (v : Int) := by
    by_cases c : v = 0 ∨ ¬ Rc E v
    · rw [h1.out v hv c, h2.out v hv c]
    · have c1 : v ≠ 0 := fun h => c (.inl h)
      have c2 : Rc E v := by
        by_cases x : Rc E v
        · exact x
        · exact absurd (.inr x) c
      obtain ⟨t, ht, hN⟩ := hT v hv c1 c2
      rw [h1.at_ v t hv ht hN, h2.at_ v t hv ht hN]
  rw [Go.Proofs.Ytlamooicofkjlaa.Aid.rd_eq _ _ hv1, Go.Proofs.Ytlamooicofkjlaa.Aid.rd_eq _ _ hv2] at key
  exact key
theorem tot {E : Nat → List Nat} {n : Nat} {L : List Nat} (O : Ord E n L) {W0 : Nat} {o : Nat → Nat} (hp : Pass E L L.length false L.length o W0) (hin : ∀ u v, Rc E u → v ∈ E u → v < n) (hn : 0 < n) : Tot E n := by
  intro v hv h0 hr
  obtain ⟨y, hy, e⟩ := List.getElem_of_mem ((O.rc v).2 ⟨hn, hr⟩)
  have e2 : at' L y = v := by rw [at_get hy]; exact e
  have hL0 : 0 < L.length := by omega
  have hy0 : 0 < y := by
    rcases Nat.eq_zero_or_pos y with h | h
    · subst h; rw [at_zero O hy] at e2; exact absurd e2.symm h0
    · exact h
  have h1 := hp.inv.T y hy0 hy
  have h3 := found O hp hin hy0 hy
  rw [e2] at h3
  exact ⟨_, at_lt O (by omega), h3⟩
theorem ints_at (l : List Nat) (i : Nat) (h : i < l.length) : rd (ints l) (i : Int) = ((at' l i : Nat) : Int) := by
  refine ints_get l i (at' l i) ?_
  rw [at_get h, List.getElem?_eq_getElem h]
theorem fin_put {fo f : Nat → Int} {i : Nat} (h : ∀ v, f v = if v < i then (if v = 0 ∨ fo v = -2 then -1 else fo v) else fo v) (hi : i = 0 ∨ fo i = -2) : ∀ v, put f i (-1) v = if v < i + 1 then (if v = 0 ∨ fo v = -2 then -1 else fo v) else fo v := by
  intro v
  unfold put
  by_cases e : v = i
  · subst e; rw [if_pos rfl, if_pos (Nat.lt_succ_self v), if_pos hi]
  · rw [if_neg e, h v]
    by_cases c : v < i
    · rw [if_pos c, if_pos (show v < i + 1 by omega)]
    · rw [if_neg c, if_neg (show ¬ v < i + 1 by omega)]
theorem fin_same {fo f : Nat → Int} {i : Nat} (h : ∀ v, f v = if v < i then (if v = 0 ∨ fo v = -2 then -1 else fo v) else fo v) (hi : ¬ (i = 0 ∨ fo i = -2)) : ∀ v, f v = if v < i + 1 then (if v = 0 ∨ fo v = -2 then -1 else fo v) else fo v := by
  intro v
  rw [h v]
  by_cases e : v = i
  · subst e; rw [if_neg (Nat.lt_irrefl v), if_pos (Nat.lt_succ_self v), if_neg hi]
  · by_cases c : v < i
    · rw [if_pos c, if_pos (show v < i + 1 by omega)]
    · rw [if_neg c, if_neg (show ¬ v < i + 1 by omega)]
theorem put_m2 {fo : Nat → Int} {i : Nat} (h : ∀ j, j < i → fo j = -2) : ∀ j, j < i + 1 → put fo i (-2) j = -2 := by
  intro j hj
  unfold put
  by_cases e : j = i
  · rw [if_pos e]
  · rw [if_neg e]; exact h j (by omega)
set_option linter.unusedSectionVars false
section
variable {B : List S70} {L : List Nat} (O : Ord (E B) B.length L) (hE : EdgesIn B)
include O hE
theorem fin_pos (h : L.length = 0) : B.length = 0 := by
  rcases Nat.eq_zero_or_pos B.length with h0 | h0
  · exact h0
  · have := List.length_pos_of_mem ((O.rc 0).2 ⟨h0, .root (fun h => h)⟩)
    omega
theorem fin_is {P : Nat} {o : Nat → Nat} {fo f : Nat → Int} (hF : L.length = 0 ∨ ∃ W0, P = L.length ∧ Pass (E B) L L.length false L.length o W0) (ho : Outs L B.length P o fo) (hf : ∀ v, v < B.length → f v = if v = 0 ∨ fo v = -2 then -1 else fo v) : IsDoms (E B) B.length (tab B.length f) := by
  rcases hF with h | ⟨W0, rfl, hp⟩
  · have h0 := fin_pos O hE h
    exact ⟨tab_len _ _, fun v hv => by omega, fun v t hv => by omega⟩
  · rcases Nat.eq_zero_or_pos B.length with h0 | h0
    · exact ⟨tab_len _ _, fun v hv => by omega, fun v t hv => by omega⟩
    · exact answer O hp ho (fun u v _ h => edge_lt hE h) h0 f hf (fun v t1 t2 a b => near_uniq a b)
theorem fin_tot {P : Nat} {o : Nat → Nat} (hF : L.length = 0 ∨ ∃ W0, P = L.length ∧ Pass (E B) L L.length false L.length o W0) : Tot (E B) B.length := by
  rcases hF with h | ⟨W0, rfl, hp⟩
  · have h0 := fin_pos O hE h
    intro v hv; omega
  · rcases Nat.eq_zero_or_pos B.length with h0 | h0
    · intro v hv; omega
    · exact tot O hp (fun u v _ h => edge_lt hE h) h0
end

theorem changed {E : Nat → List Nat} {n : Nat} {L : List Nat} (O : Ord E n L) {c P z : Nat} {o : Nat → Nat} {fo : Nat → Int} (h : Outs L n P o fo) (hc : c < L.length) (hcP : c ≤ P) (hz : z < P) : fo (at' L c) = ((at' L z : Nat) : Int) ↔ (c < P ∧ z = o c) := by
  have hP := h.le
  by_cases hlt : c < P
  · obtain ⟨h1, h2⟩ := h.at_ c hlt
    rw [h2]
    constructor
    · intro e; exact ⟨hlt, (at_inj O (by omega) (by omega) (by omega)).symm⟩
    · rintro ⟨_, e⟩; rw [e]
  · have h2 := h.no (at' L c) (at_lt O hc) (fun j hj e => by have := at_inj O (by omega) hc e; omega)
    rw [h2]
    constructor
    · intro e; omega
    · rintro ⟨e, _⟩; omega
theorem pass_end {E : Nat → List Nat} {L : List Nat} {c P P' gk : Nat} {ag : Bool} {o o' : Nat → Nat} (h : (c = 0 ∧ ag = false ∧ P' = P ∧ o' = o) ∨ (0 < c ∧ Pass E L c ag P' o' (wt L.length P o L.length))) (hb : Begin E L P o) (hc : c = L.length) (hk : wt L.length P o L.length + 1 = gk) :
    Begin E L P' o' ∧ (ag = false → L.length = 0 ∨ ∃ W0, P' = L.length ∧ Pass E L L.length false L.length o' W0) ∧ (if ag = true then wt L.length P' o' L.length + 1 else 0) < gk := by
  rcases h with ⟨h1, rfl, rfl, rfl⟩ | ⟨h1, hp⟩
  · refine ⟨hb, fun _ => .inl (by omega), ?_⟩
    rw [if_neg (by decide)]; omega
  · subst hc
    obtain ⟨h2, h3⟩ := hp.done
    refine ⟨h3, fun ha => .inr ⟨_, h2, by subst ha; rw [h2] at hp; exact hp⟩, ?_⟩
    cases ag
    · rw [if_neg (by decide)]; omega
    · rw [if_pos rfl]
      have := hp.yes rfl
      omega
theorem meet_v (w2 : World) (n g5 g6 : Nat) (Aa : Option Addr) (ca : Nat) (Ab : Option Addr) (cb : Nat) (fr fo : Nat → Int) (L : List Nat) (P : Nat) (o : Nat → Nat) (i0 j0 a b : Nat) (ha : a = at' L i0) (hb : at' L j0 = b) (w : World) (hD : DMem w2 w n g5 g6 Aa ca Ab cb fr fo) (hR : Ranks L n fr) (hO : Outs L n P o fo) (hT : Tree o P) (hi0 : i0 < P) (hj0 : j0 < P) (hL : L.length ≤ 1099511627776) :
    Calls Try.prog 41 #[.int .i64 (a : Int), .int .i64 (b : Int), .pointer (some ⟨g5, 0, none⟩), .pointer (some ⟨g6, 0, none⟩)] w (fun e w' => e = .returned (.int .i64 (at' L (meet o (i0 + j0 + 1) i0 j0) : Nat)) ∧ Below w.heap.size w w') := by
  subst ha hb
  exact meet_c w2 n g5 g6 Aa ca Ab cb fr fo L P o i0 j0 w hD hR hO hT hi0 hj0 hL
