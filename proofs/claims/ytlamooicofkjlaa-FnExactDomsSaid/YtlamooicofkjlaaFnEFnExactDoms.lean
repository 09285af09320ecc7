/- Plain laws of the printed szFn, toFn and eqFn: sizes are counted, a function is handed over as it is, and it equals itself. -/
import Derived.Test.YtlamooicofkjlaaQFnExactDomsx
import Derived.Test.YtlamooicofkjlaaLoops
import Derived.Test.YtlamooicofkjlaaSraFnExactDoms
namespace Go.Proofs.Ytlamooicofkjlaa.FnEFnExactDoms
open Go.RowKit Go.Proofs.Ytlamooicofkjlaa.QFnExactDoms Go.Proofs.YtlamooicofkjlaaW.PrintWords Go.Proofs.YtlamooicofkjlaaW.PrintLast Go.Proofs.Ytlamooicofkjlaa.Aid Go.Proofs.Ytlamooicofkjlaa.Loops
set_option linter.unusedVariables false
set_option linter.unusedSimpArgs false

def toT (x : S24) : S33 := ⟨x.f0, x.f1⟩
def toV (x : S63) : S77 := ⟨x.f0, x.f1, ⟨x.f2.f0, x.f2.f1⟩, x.f3⟩
def toG (x : S101) : S72 := ⟨x.f0, x.f1⟩
def toB (x : S67) : S70 := ⟨x.f0, x.f1, x.f2, x.f3, x.f4.map toG⟩
def szV (x : S63) : Nat := x.f3.length
def szG (x : S101) : Nat := x.f1.length
def szB (x : S67) : Nat := x.f0.length + x.f1.length + x.f3.length + (x.f4.length + sumOf szG x.f4)
/-- What a function holds, counted. -/
def szAll (l0 : List S24) (l3 : List S63) (l4 : List S67) : Nat := l0.length + (l3.length + sumOf szV l3) + (l4.length + sumOf szB l4)
/-- No list is longer than a list can be. -/
def Fits (l0 : List S24) (l3 : List S63) (l4 : List S67) : Prop := l0.length ≤ maxLen ∧ (l3.length ≤ maxLen ∧ ∀ v ∈ l3, v.f3.length ≤ maxLen) ∧ l4.length ≤ maxLen ∧ ∀ b ∈ l4, b.f0.length ≤ maxLen ∧ b.f1.length ≤ maxLen ∧ b.f3.length ≤ maxLen ∧ b.f4.length ≤ maxLen ∧ ∀ g ∈ b.f4, g.f1.length ≤ maxLen

theorem minus {n : Nat} {a : Int} (hn : n ≤ maxLen) (h0 : 0 ≤ a) (h1 : a ≤ 1048576) : wrap64 (a - (n : Int)) = a - n := by
  unfold maxLen at hn
  exact wrap64_id (by omega) (by omega)
theorem rd24 (l : List S24) (j : Nat) (h : j < l.length) : rd_T24 l (j : Int) = l[j] := by
  unfold rd_T24; rw [Int.toNat_natCast, List.getD_eq_getElem?_getD, List.getElem?_eq_getElem h]; rfl
theorem rd63 (l : List S63) (j : Nat) (h : j < l.length) : rd_T63 l (j : Int) = l[j] := by
  unfold rd_T63; rw [Int.toNat_natCast, List.getD_eq_getElem?_getD, List.getElem?_eq_getElem h]; rfl
theorem rd67 (l : List S67) (j : Nat) (h : j < l.length) : rd_T67 l (j : Int) = l[j] := by
  unfold rd_T67; rw [Int.toNat_natCast, List.getD_eq_getElem?_getD, List.getElem?_eq_getElem h]; rfl
theorem rd101 (l : List S101) (j : Nat) (h : j < l.length) : rd_T101 l (j : Int) = l[j] := by
  unfold rd_T101; rw [Int.toNat_natCast, List.getD_eq_getElem?_getD, List.getElem?_eq_getElem h]; rfl
theorem rd77 (l : List S77) (j : Nat) (h : j < l.length) : rd_T77 l (j : Int) = l[j] := by
  unfold rd_T77; rw [Int.toNat_natCast, List.getD_eq_getElem?_getD, List.getElem?_eq_getElem h]; rfl
theorem rd70' (l : List S70) (j : Nat) (h : j < l.length) : rd_T70 l (j : Int) = l[j] := by
  unfold rd_T70; rw [Int.toNat_natCast, List.getD_eq_getElem?_getD, List.getElem?_eq_getElem h]; rfl
theorem rd72' (l : List S72) (j : Nat) (h : j < l.length) : rd_T72 l (j : Int) = l[j] := by
  unfold rd_T72; rw [Int.toNat_natCast, List.getD_eq_getElem?_getD, List.getElem?_eq_getElem h]; rfl

/-! ### Sizes -/
theorem one_list (g : Nat → Option Int) (n : Nat) (a : Int) (hn : n ≤ maxLen) (h0 : 0 ≤ a) (h1 : a ≤ 1048576)
    (hg : ∀ k, g k = if (wrap64 (a - (n : Int))) < 0 then some (-1) else some (wrap64 (a - (n : Int)))) : Tells g (LeftOf a n) := by
  refine Tells.congr hg ?_
  rw [minus hn h0 h1]
  exact Tells.ite (fun _ => Tells.now (.inl (by decide))) (fun c => Tells.now (.inr ⟨by omega, by omega⟩))
theorem szIntS_tells (l : List Int) (a : Int) (hn : l.length ≤ maxLen) (h0 : 0 ≤ a) (h1 : a ≤ 1048576) : Tells (fun _ => laws_szIntS.f l a) (LeftOf a l.length) := one_list (fun _ => laws_szIntS.f l a) _ a hn h0 h1 (fun _ => rfl)
/-- What follows where something is left. -/
theorem left_then {g : Nat → Option Int} {f : Nat → Int → Option Int} {a : Int} {n m : Nat} (hg : Tells g (LeftOf a n)) (hf : ∀ t, 0 ≤ t → t + n ≤ a → Tells (fun k => f k t) (LeftOf t m)) : Tells (fun k => (g k).bind fun t => if t < 0 then some (-1) else f k t) (LeftOf a (n + m)) := by
  refine Tells.bind (f := fun k t => if t < 0 then some (-1) else f k t) hg fun t ht => ?_
  refine Tells.ite (fun _ => Tells.now (.inl (by decide))) (fun c => ?_)
  rcases ht with ht | ⟨h1, h2⟩
  · exact absurd ht c
  · refine (hf t h1 h2).mono fun r hr => ?_
    rcases hr with hr | ⟨h3, h4⟩
    · exact .inl hr
    · exact .inr ⟨h3, by omega⟩
theorem left_end {a : Int} (h0 : 0 ≤ a) : Tells (fun _ => some a) (LeftOf a 0) := Tells.now (.inr ⟨h0, by omega⟩)
theorem szRow_tells {α : Type} (l : List α) (sz : α → Nat) (L : Nat → Int → Int → Option Int) (el : Nat → Int → Int → Option Int) (g : Nat → Option Int) (a : Int) (hl : l.length ≤ maxLen) (h0 : 0 ≤ a) (h1 : a ≤ 1048576)
    (hg : ∀ k, g k = if (wrap64 (a - (l.length : Int))) < 0 then some (-1) else L k (wrap64 (a - (l.length : Int))) 0)
    (hstep : ∀ k a i, L (k + 1) a i = if i < (l.length : Int) then (if 0 ≤ i then ((el k i a).bind fun t => if t < 0 then some (-1) else L k t (wrap64 (i + 1))) else none) else some a)
    (hel : ∀ (j : Nat) (h : j < l.length) (a : Int), 0 ≤ a → a ≤ 1048576 → Tells (fun k => el k j a) (LeftOf a (sz l[j]))) : Tells g (LeftOf a (l.length + sumOf sz l)) := by
  refine Tells.congr hg ?_
  rw [minus hl h0 h1]
  refine Tells.ite (fun _ => Tells.now (.inl (by decide))) (fun c => ?_)
  refine (size_loop l sz L el hstep hel (by omega) l.length (a - l.length) 0 (by omega) (by omega) (by omega) (by omega)).mono fun r hr => ?_
  rw [List.drop_zero] at hr
  rcases hr with hr | ⟨h4, h5⟩
  · exact .inl hr
  · exact .inr ⟨h4, by omega⟩
theorem szValS_tells (l : List S63) (a : Int) (hl : l.length ≤ maxLen) (hm : ∀ v ∈ l, v.f3.length ≤ maxLen) (h0 : 0 ≤ a) (h1 : a ≤ 1048576) : Tells (fun k => laws_szValS.f k l a) (LeftOf a (l.length + sumOf szV l)) := by
  refine szRow_tells l szV (fun k a i => laws_szValS.l0 k l a i) (fun _ i a => laws_szVal.f ((rd_T63 l i).f0) ((rd_T63 l i).f1) ((rd_T63 l i).f2.f0) ((rd_T63 l i).f2.f1) ((rd_T63 l i).f3) a) _ a hl h0 h1 (fun k => by unfold laws_szValS.f; rfl) (fun k a i => by simp only [laws_szValS.l0]) (fun j hj b hb0 hb1 => ?_)
  rw [rd63 l j hj]
  have := left_then (f := fun _ t => some t) (szIntS_tells l[j].f3 b (hm _ (List.getElem_mem hj)) hb0 hb1) (fun t h2 _ => left_end h2)
  exact this
theorem szEdgeS_tells (l : List S101) (a : Int) (hl : l.length ≤ maxLen) (hm : ∀ v ∈ l, v.f1.length ≤ maxLen) (h0 : 0 ≤ a) (h1 : a ≤ 1048576) : Tells (fun k => laws_szEdgeS.f k l a) (LeftOf a (l.length + sumOf szG l)) := by
  refine szRow_tells l szG (fun k a i => laws_szEdgeS.l0 k l a i) (fun _ i a => laws_szEdge.f ((rd_T101 l i).f0) ((rd_T101 l i).f1) a) _ a hl h0 h1 (fun k => by unfold laws_szEdgeS.f; rfl) (fun k a i => by simp only [laws_szEdgeS.l0]) (fun j hj b hb0 hb1 => ?_)
  rw [rd101 l j hj]
  have := left_then (f := fun _ t => some t) (szIntS_tells l[j].f1 b (hm _ (List.getElem_mem hj)) hb0 hb1) (fun t h2 _ => left_end h2)
  exact this
theorem szBlock_tells (b : S67) (a : Int) (h : b.f0.length ≤ maxLen ∧ b.f1.length ≤ maxLen ∧ b.f3.length ≤ maxLen ∧ b.f4.length ≤ maxLen ∧ ∀ g ∈ b.f4, g.f1.length ≤ maxLen) (h0 : 0 ≤ a) (h1 : a ≤ 1048576) : Tells (fun k => laws_szBlock.f k b.f0 b.f1 b.f2 b.f3 b.f4 a) (LeftOf a (szB b)) := by
  obtain ⟨q0, q1, q3, q4, q5⟩ := h
  have := left_then (f := fun k t => (laws_szIntS.f b.f1 t).bind fun t => if t < 0 then some (-1) else (laws_szIntS.f b.f3 t).bind fun t => if t < 0 then some (-1) else (laws_szEdgeS.f k b.f4 t).bind fun t => if t < 0 then some (-1) else some t) (szIntS_tells b.f0 a q0 h0 h1) (fun t t0 t1 =>
    left_then (f := fun k t => (laws_szIntS.f b.f3 t).bind fun t => if t < 0 then some (-1) else (laws_szEdgeS.f k b.f4 t).bind fun t => if t < 0 then some (-1) else some t) (szIntS_tells b.f1 t q1 t0 (by omega)) (fun s s0 s1 =>
      left_then (f := fun k t => (laws_szEdgeS.f k b.f4 t).bind fun t => if t < 0 then some (-1) else some t) (szIntS_tells b.f3 s q3 s0 (by omega)) (fun u u0 u1 =>
        left_then (f := fun _ t => some t) (szEdgeS_tells b.f4 u q4 q5 u0 (by omega)) (fun v v0 _ => left_end v0))))
  refine this.mono fun r hr => ?_
  rcases hr with hr | ⟨h4, h5⟩
  · exact .inl hr
  · exact .inr ⟨h4, by unfold szB; omega⟩
theorem szBlockS_tells (l : List S67) (a : Int) (hl : l.length ≤ maxLen) (hm : ∀ b ∈ l, b.f0.length ≤ maxLen ∧ b.f1.length ≤ maxLen ∧ b.f3.length ≤ maxLen ∧ b.f4.length ≤ maxLen ∧ ∀ g ∈ b.f4, g.f1.length ≤ maxLen) (h0 : 0 ≤ a) (h1 : a ≤ 1048576) : Tells (fun k => laws_szBlockS.f k l a) (LeftOf a (l.length + sumOf szB l)) := by
  refine szRow_tells l szB (fun k a i => laws_szBlockS.l0 k l a i) (fun k i a => laws_szBlock.f k ((rd_T67 l i).f0) ((rd_T67 l i).f1) ((rd_T67 l i).f2) ((rd_T67 l i).f3) ((rd_T67 l i).f4) a) _ a hl h0 h1 (fun k => by unfold laws_szBlockS.f; rfl) (fun k a i => by simp only [laws_szBlockS.l0]) (fun j hj b hb0 hb1 => ?_)
  rw [rd67 l j hj]
  exact szBlock_tells _ _ (hm _ (List.getElem_mem hj)) hb0 hb1
theorem szFn_tells (l0 : List S24) (a1 a2 : Int) (l3 : List S63) (l4 : List S67) (hf : Fits l0 l3 l4) : Tells (fun k => laws_szFn.f k l0 a1 a2 l3 l4 1048576) (LeftOf 1048576 (szAll l0 l3 l4)) := by
  obtain ⟨q0, ⟨q1, q2⟩, q3, q4⟩ := hf
  have := left_then (f := fun k t => (laws_szValS.f k l3 t).bind fun t => if t < 0 then some (-1) else (laws_szBlockS.f k l4 t).bind fun t => if t < 0 then some (-1) else some t) (one_list (fun _ => laws_szTyS.f l0 1048576) l0.length 1048576 q0 (by decide) (by decide) (fun _ => rfl)) (fun t t0 t1 =>
    left_then (f := fun k t => (laws_szBlockS.f k l4 t).bind fun t => if t < 0 then some (-1) else some t) (szValS_tells l3 t q1 q2 t0 (by omega)) (fun s s0 s1 =>
      left_then (f := fun _ t => some t) (szBlockS_tells l4 s q3 q4 s0 (by omega)) (fun v v0 _ => left_end v0)))
  refine this.mono fun r hr => ?_
  rcases hr with hr | ⟨h4, h5⟩
  · exact .inl hr
  · exact .inr ⟨h4, by unfold szAll; omega⟩

/-! ### Handing over -/
def ShortB (b : S67) : Prop := b.f0.length ≤ 1048576 ∧ b.f1.length ≤ 1048576 ∧ b.f3.length ≤ 1048576 ∧ b.f4.length ≤ 1048576 ∧ ∀ g ∈ b.f4, g.f1.length ≤ 1048576
/-- No list of a function is long. -/
def Short (l0 : List S24) (l3 : List S63) (l4 : List S67) : Prop := l0.length ≤ 1048576 ∧ (l3.length ≤ 1048576 ∧ ∀ v ∈ l3, v.f3.length ≤ 1048576) ∧ l4.length ≤ 1048576 ∧ ∀ b ∈ l4, ShortB b
theorem sum_mem {α : Type} (sz : α → Nat) {l : List α} {x : α} (h : x ∈ l) : sz x ≤ sumOf sz l := by
  induction l with
  | nil => cases h
  | cons y l ih =>
    rcases List.mem_cons.1 h with rfl | h
    · exact Nat.le_add_right _ _
    · exact Nat.le_trans (ih h) (Nat.le_add_left _ _)
theorem short_of {l0 : List S24} {l3 : List S63} {l4 : List S67} (h : szAll l0 l3 l4 ≤ 1048576) : Short l0 l3 l4 := by
  unfold szAll at h
  refine ⟨by omega, ⟨by omega, fun v hv => ?_⟩, by omega, fun b hb => ?_⟩
  · have : v.f3.length ≤ sumOf szV l3 := sum_mem szV hv
    omega
  · have h1 : b.f0.length + b.f1.length + b.f3.length + (b.f4.length + sumOf szG b.f4) ≤ sumOf szB l4 := sum_mem szB hb
    refine ⟨by omega, by omega, by omega, by omega, fun g hg => ?_⟩
    have h2 : g.f1.length ≤ sumOf szG b.f4 := sum_mem szG hg
    omega
theorem toIntS_tells (x : List Int) (hx : x.length ≤ 1048576) : Tells (fun k => laws_toIntS.f k x) (fun r => r = x) := by
  unfold laws_toIntS.f
  refine Tells.pos (by omega) (Tells.pos (by omega) ?_)
  have := copy_loop x id (fun k o i => laws_toIntS.l0 k x o i) (fun _ i => some (rd x i)) (fun k x3 i => by simp only [laws_toIntS.l0, Option.bind_some]) (fun j hj => Tells.now (by rw [rd_eq x j hj]; rfl)) (by omega) x.length (List.replicate x.length 0) 0 (by simp) (by omega) (by omega) (by simp)
  rw [List.map_id] at this
  exact this
theorem toTyS_tells (x : List S24) (hx : x.length ≤ 1048576) : Tells (fun k => laws_toTyS.f k x) (fun r => r = x.map toT) := by
  unfold laws_toTyS.f
  refine Tells.pos (by omega) (Tells.pos (by omega) ?_)
  exact copy_loop x toT (fun k o i => laws_toTyS.l0 k x o i) (fun _ i => some (toT (rd_T24 x i))) (fun k x3 i => by simp only [laws_toTyS.l0, laws_toTy.f, Option.bind_some]; rfl) (fun j hj => Tells.now (by rw [rd24 x j hj])) (by omega) x.length (List.replicate x.length z33) 0 (by simp) (by omega) (by omega) (by simp)
theorem toValS_tells (x : List S63) (hx : x.length ≤ 1048576) (hm : ∀ v ∈ x, v.f3.length ≤ 1048576) : Tells (fun k => laws_toValS.f k x) (fun r => r = x.map toV) := by
  unfold laws_toValS.f
  refine Tells.pos (by omega) (Tells.pos (by omega) ?_)
  refine copy_loop x toV (fun k o i => laws_toValS.l0 k x o i) (fun k i => (laws_toVal.f k ((rd_T63 x i).f0) ((rd_T63 x i).f1) ((rd_T63 x i).f2.f0) ((rd_T63 x i).f2.f1) ((rd_T63 x i).f3)).bind fun bt => some (⟨bt.1, bt.2.1, (⟨bt.2.2.1, bt.2.2.2.1⟩ : S33), bt.2.2.2.2⟩ : S77)) (fun k x3 i => by simp only [laws_toValS.l0, Option.bind_assoc, Option.bind_some]) (fun j hj => ?_) (by omega) x.length (List.replicate x.length z77) 0 (by simp) (by omega) (by omega) (by simp)
  rw [rd63 x j hj]
  unfold laws_toVal.f laws_toTy.f
  refine Tells.bind (P := fun r => r = (x[j].f0, x[j].f1, x[j].f2.f0, x[j].f2.f1, x[j].f3)) ?_ fun t ht => Tells.now (by rw [ht]; rfl)
  simp only [Option.bind_some]
  exact Tells.bind (toIntS_tells _ (hm _ (List.getElem_mem hj))) fun t ht => Tells.now (by rw [ht])
theorem toEdgeS_tells (x : List S101) (hx : x.length ≤ 1048576) (hm : ∀ g ∈ x, g.f1.length ≤ 1048576) : Tells (fun k => laws_toEdgeS.f k x) (fun r => r = x.map toG) := by
  unfold laws_toEdgeS.f
  refine Tells.pos (by omega) (Tells.pos (by omega) ?_)
  refine copy_loop x toG (fun k o i => laws_toEdgeS.l0 k x o i) (fun k i => (laws_toEdge.f k ((rd_T101 x i).f0) ((rd_T101 x i).f1)).bind fun bt => some (⟨bt.1, bt.2⟩ : S72)) (fun k x3 i => by simp only [laws_toEdgeS.l0, Option.bind_assoc, Option.bind_some]) (fun j hj => ?_) (by omega) x.length (List.replicate x.length z72) 0 (by simp) (by omega) (by omega) (by simp)
  rw [rd101 x j hj]
  unfold laws_toEdge.f
  refine Tells.bind (P := fun r => r = (x[j].f0, x[j].f1)) (Tells.bind (toIntS_tells _ (hm _ (List.getElem_mem hj))) fun t ht => Tells.now (by rw [ht])) fun t ht => Tells.now (by rw [ht]; rfl)
theorem toBlock_tells (b : S67) (h : ShortB b) : Tells (fun k => laws_toBlock.f k b.f0 b.f1 b.f2 b.f3 b.f4) (fun r => r = (b.f0, b.f1, b.f2, b.f3, b.f4.map toG)) := by
  obtain ⟨q0, q1, q3, q4, q5⟩ := h
  unfold laws_toBlock.f
  refine Tells.bind (toIntS_tells _ q0) fun t ht => Tells.bind (toIntS_tells _ q1) fun s hs => Tells.bind (toIntS_tells _ q3) fun u hu => Tells.bind (toEdgeS_tells _ q4 q5) fun v hv => Tells.now ?_
  rw [ht, hs, hu, hv]
theorem toBlockS_tells (x : List S67) (hx : x.length ≤ 1048576) (hm : ∀ b ∈ x, ShortB b) : Tells (fun k => laws_toBlockS.f k x) (fun r => r = x.map toB) := by
  unfold laws_toBlockS.f
  refine Tells.pos (by omega) (Tells.pos (by omega) ?_)
  refine copy_loop x toB (fun k o i => laws_toBlockS.l0 k x o i) (fun k i => (laws_toBlock.f k ((rd_T67 x i).f0) ((rd_T67 x i).f1) ((rd_T67 x i).f2) ((rd_T67 x i).f3) ((rd_T67 x i).f4)).bind fun bt => some (⟨bt.1, bt.2.1, bt.2.2.1, bt.2.2.2.1, bt.2.2.2.2⟩ : S70)) (fun k x3 i => by simp only [laws_toBlockS.l0, Option.bind_assoc, Option.bind_some]) (fun j hj => ?_) (by omega) x.length (List.replicate x.length z70) 0 (by simp) (by omega) (by omega) (by simp)
  rw [rd67 x j hj]
  refine Tells.bind (toBlock_tells _ (hm _ (List.getElem_mem hj))) fun t ht => Tells.now ?_
  rw [ht]; rfl
theorem toFn_tells (l0 : List S24) (a1 a2 : Int) (l3 : List S63) (l4 : List S67) (hs : Short l0 l3 l4) : Tells (fun k => laws_toFn.f k l0 a1 a2 l3 l4) (fun r => r = (l0.map toT, a1, a2, l3.map toV, l4.map toB)) := by
  obtain ⟨q0, ⟨q1, q2⟩, q3, q4⟩ := hs
  unfold laws_toFn.f laws_toTy.f
  simp only [Option.bind_some]
  refine Tells.bind (toTyS_tells _ q0) fun t ht => Tells.bind (toValS_tells _ q1 q2) fun u hu => Tells.bind (toBlockS_tells _ q3 q4) fun v hv => Tells.now ?_
  rw [ht, hu, hv]

/-! ### A function equals itself -/
theorem eqIntS_tells (x : List Int) (hx : x.length ≤ 1048576) : Tells (fun k => laws_eqIntS.f k x x) (fun r => r = true) := by
  unfold laws_eqIntS.f
  refine Tells.pos rfl ?_
  exact eq_loop x.length (fun k i => laws_eqIntS.l0 k x x i) (fun _ i => some true) (fun k i => by simp only [laws_eqIntS.l0, Option.bind_some, if_true]) (fun j hj => Tells.now rfl) (by omega) x.length 0 (by omega) (by omega)
theorem eqTyS_tells (x : List S33) (hx : x.length ≤ 1048576) : Tells (fun k => laws_eqTyS.f k x x) (fun r => r = true) := by
  unfold laws_eqTyS.f
  refine Tells.pos rfl ?_
  exact eq_loop x.length (fun k i => laws_eqTyS.l0 k x x i) (fun _ i => laws_eqTy.f ((rd_T33 x i).f0) ((rd_T33 x i).f1) ((rd_T33 x i).f0) ((rd_T33 x i).f1)) (fun k i => by simp only [laws_eqTyS.l0]) (fun j hj => Tells.eq (by simp only [laws_eqTy.f, if_true]) rfl) (by omega) x.length 0 (by omega) (by omega)
theorem eqValS_tells (x : List S77) (hx : x.length ≤ 1048576) (hm : ∀ v ∈ x, v.f3.length ≤ 1048576) : Tells (fun k => laws_eqValS.f k x x) (fun r => r = true) := by
  unfold laws_eqValS.f
  refine Tells.pos rfl ?_
  refine eq_loop x.length (fun k i => laws_eqValS.l0 k x x i) (fun k i => laws_eqVal.f k ((rd_T77 x i).f0) ((rd_T77 x i).f1) ((rd_T77 x i).f2.f0) ((rd_T77 x i).f2.f1) ((rd_T77 x i).f3) ((rd_T77 x i).f0) ((rd_T77 x i).f1) ((rd_T77 x i).f2.f0) ((rd_T77 x i).f2.f1) ((rd_T77 x i).f3)) (fun k i => by simp only [laws_eqValS.l0]) (fun j hj => ?_) (by omega) x.length 0 (by omega) (by omega)
  rw [rd77 x j hj]
  unfold laws_eqVal.f laws_eqTy.f
  refine Tells.pos rfl (Tells.pos rfl ?_)
  simp only [if_true, Option.bind_some]
  exact Tells.bind (eqIntS_tells _ (hm _ (List.getElem_mem hj))) fun t ht => Tells.pos ht (Tells.now rfl)
theorem eqEdgeS_tells (x : List S72) (hx : x.length ≤ 1048576) (hm : ∀ v ∈ x, v.f1.length ≤ 1048576) : Tells (fun k => laws_eqEdgeS.f k x x) (fun r => r = true) := by
  unfold laws_eqEdgeS.f
  refine Tells.pos rfl ?_
  refine eq_loop x.length (fun k i => laws_eqEdgeS.l0 k x x i) (fun k i => laws_eqEdge.f k ((rd_T72 x i).f0) ((rd_T72 x i).f1) ((rd_T72 x i).f0) ((rd_T72 x i).f1)) (fun k i => by simp only [laws_eqEdgeS.l0]) (fun j hj => ?_) (by omega) x.length 0 (by omega) (by omega)
  rw [rd72' x j hj]
  unfold laws_eqEdge.f
  exact Tells.pos rfl (Tells.bind (eqIntS_tells _ (hm _ (List.getElem_mem hj))) fun t ht => Tells.pos ht (Tells.now rfl))
def ShortB' (b : S70) : Prop := b.f0.length ≤ 1048576 ∧ b.f1.length ≤ 1048576 ∧ b.f3.length ≤ 1048576 ∧ b.f4.length ≤ 1048576 ∧ ∀ g ∈ b.f4, g.f1.length ≤ 1048576
theorem eqBlockS_tells (x : List S70) (hx : x.length ≤ 1048576) (hm : ∀ b ∈ x, ShortB' b) : Tells (fun k => laws_eqBlockS.f k x x) (fun r => r = true) := by
  unfold laws_eqBlockS.f
  refine Tells.pos rfl ?_
  refine eq_loop x.length (fun k i => laws_eqBlockS.l0 k x x i) (fun k i => laws_eqBlock.f k ((rd_T70 x i).f0) ((rd_T70 x i).f1) ((rd_T70 x i).f2) ((rd_T70 x i).f3) ((rd_T70 x i).f4) ((rd_T70 x i).f0) ((rd_T70 x i).f1) ((rd_T70 x i).f2) ((rd_T70 x i).f3) ((rd_T70 x i).f4)) (fun k i => by simp only [laws_eqBlockS.l0]) (fun j hj => ?_) (by omega) x.length 0 (by omega) (by omega)
  rw [rd70' x j hj]
  obtain ⟨q0, q1, q3, q4, q5⟩ := hm _ (List.getElem_mem hj)
  unfold laws_eqBlock.f
  exact Tells.bind (eqIntS_tells _ q0) fun t ht => Tells.pos ht (Tells.bind (eqIntS_tells _ q1) fun t ht => Tells.pos ht (Tells.pos rfl (Tells.bind (eqIntS_tells _ q3) fun t ht => Tells.pos ht (Tells.bind (eqEdgeS_tells _ q4 q5) fun t ht => Tells.pos ht (Tells.now rfl)))))
/-- No list of what is handed over is long. -/
structure Short' (L0 : List S33) (L3 : List S77) (L4 : List S70) : Prop where
  t : L0.length ≤ 1048576
  v : L3.length ≤ 1048576
  v3 : ∀ v ∈ L3, v.f3.length ≤ 1048576
  b : L4.length ≤ 1048576
  bs : ∀ b ∈ L4, ShortB' b
theorem short' {l0 : List S24} {l3 : List S63} {l4 : List S67} (h : Short l0 l3 l4) : Short' (l0.map toT) (l3.map toV) (l4.map toB) := by
  obtain ⟨q0, ⟨q1, q2⟩, q3, q4⟩ := h
  refine ⟨by rw [List.length_map]; exact q0, by rw [List.length_map]; exact q1, fun v hv => ?_, by rw [List.length_map]; exact q3, fun b hb => ?_⟩
  · obtain ⟨v', hv', rfl⟩ := List.mem_map.1 hv
    exact q2 v' hv'
  · obtain ⟨b', hb', rfl⟩ := List.mem_map.1 hb
    obtain ⟨r0, r1, r3, r4, r5⟩ := q4 b' hb'
    refine ⟨r0, r1, r3, by unfold toB; rw [List.length_map]; exact r4, fun g hg => ?_⟩
    obtain ⟨g', hg', rfl⟩ := List.mem_map.1 hg
    exact r5 g' hg'
theorem eqFn_tells (L0 : List S33) (a1 a2 : Int) (L3 : List S77) (L4 : List S70) (hs : Short' L0 L3 L4) : Tells (fun k => laws_eqFn.f k L0 a1 a2 L3 L4 L0 a1 a2 L3 L4) (fun r => r = true) := by
  unfold laws_eqFn.f laws_eqTy.f
  refine Tells.bind (eqTyS_tells _ hs.t) fun t ht => Tells.pos ht ?_
  simp only [if_true, Option.bind_some]
  exact Tells.bind (eqValS_tells _ hs.v hs.v3) fun t ht => Tells.pos ht (Tells.bind (eqBlockS_tells _ hs.b hs.bs) fun t ht => Tells.pos ht (Tells.now rfl))
end Go.Proofs.Ytlamooicofkjlaa.FnEFnExactDoms
