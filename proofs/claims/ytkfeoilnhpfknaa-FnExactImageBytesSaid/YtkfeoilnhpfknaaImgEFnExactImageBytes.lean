/- Plain laws of the printed szImage, toImage and eqImage: sizes are counted, an image is handed over as it is, and it equals itself. -/
import Derived.Test.YtkfeoilnhpfknaaQFnExactImageBytesx
import Derived.Test.YtkfeoilnhpfknaaLoops
namespace Go.Proofs.Ytkfeoilnhpfknaa.ImgEFnExactImageBytes
open Go.RowKit Go.Proofs.Ytkfeoilnhpfknaa.QFnExactImageBytes Go.Proofs.YtkfeoilnhpfknaaW.PrintWords Go.Proofs.YtkfeoilnhpfknaaW.PrintLast Go.Proofs.Ytkfeoilnhpfknaa.Aid Go.Proofs.Ytkfeoilnhpfknaa.Loops

def toI (x : S117) : S68 := ⟨x.f0, x.f1, x.f2, x.f3, x.f4⟩
def toM (x : S115) : S72 := ⟨x.f0, x.f1⟩
def toC (x : S83) : S53 := ⟨x.f0, x.f1, x.f2.map toI, x.f3.map toM⟩
def szM (x : S115) : Nat := x.f1.length
def szC (x : S83) : Nat := x.f2.length + x.f3.length + sumOf szM x.f3
/-- What an image holds, counted. -/
def szAll (l0 : List (List Bool)) (l1 : List S83) : Nat := l0.length + sumOf List.length l0 + (l1.length + sumOf szC l1)
/-- No list of an image is longer than a list can be. -/
def Fits (l0 : List (List Bool)) (l1 : List S83) : Prop := l0.length ≤ maxLen ∧ (∀ s ∈ l0, s.length ≤ maxLen) ∧ l1.length ≤ maxLen ∧ ∀ c ∈ l1, c.f2.length ≤ maxLen ∧ c.f3.length ≤ maxLen ∧ ∀ m ∈ c.f3, m.f1.length ≤ maxLen

theorem minus {n : Nat} {a : Int} (hn : n ≤ maxLen) (h0 : 0 ≤ a) (h1 : a ≤ 1048576) : wrap64 (a - (n : Int)) = a - n := by
  unfold maxLen at hn
  exact wrap64_id (by omega) (by omega)

theorem rd83 (l : List S83) (j : Nat) (h : j < l.length) : rd_T83 l (j : Int) = l[j] := by
  unfold rd_T83; rw [Int.toNat_natCast, List.getD_eq_getElem?_getD, List.getElem?_eq_getElem h]; rfl
theorem rd115 (l : List S115) (j : Nat) (h : j < l.length) : rd_T115 l (j : Int) = l[j] := by
  unfold rd_T115; rw [Int.toNat_natCast, List.getD_eq_getElem?_getD, List.getElem?_eq_getElem h]; rfl
theorem rd117 (l : List S117) (j : Nat) (h : j < l.length) : rd_T117 l (j : Int) = l[j] := by
  unfold rd_T117; rw [Int.toNat_natCast, List.getD_eq_getElem?_getD, List.getElem?_eq_getElem h]; rfl
theorem rdL1 (l : List (List Bool)) (j : Nat) (h : j < l.length) : rd_L1 l (j : Int) = l[j] := by
  unfold rd_L1; rw [Int.toNat_natCast, List.getD_eq_getElem?_getD, List.getElem?_eq_getElem h]; rfl
theorem rdB (l : List Bool) (j : Nat) (h : j < l.length) : rdOf false l (j : Int) = l[j] := by
  unfold rdOf; rw [Int.toNat_natCast, List.getD_eq_getElem?_getD, List.getElem?_eq_getElem h]; rfl

/-! ### Sizes -/
theorem one_list (g : Nat → Option Int) (n : Nat) (a : Int) (hn : n ≤ maxLen) (h0 : 0 ≤ a) (h1 : a ≤ 1048576)
    (hg : ∀ k, g k = if (wrap64 (a - (n : Int))) < 0 then some (-1) else some (wrap64 (a - (n : Int)))) : Tells g (LeftOf a n) := by
  refine Tells.congr hg ?_
  rw [minus hn h0 h1]
  exact Tells.ite (fun _ => Tells.now (.inl (by decide))) (fun c => Tells.now (.inr ⟨by omega, by omega⟩))

theorem szMap_tells (m : S115) (a : Int) (hm : m.f1.length ≤ maxLen) (h0 : 0 ≤ a) (h1 : a ≤ 1048576) : Tells (fun _ => laws_szMap.f m.f0 m.f1 a) (LeftOf a (szM m)) := by
  unfold laws_szMap.f
  refine Tells.bind (f := fun _ t => if t < 0 then some (-1) else some t) (one_list (fun _ => laws_szIntS.f m.f1 a) m.f1.length a hm h0 h1 (fun _ => rfl)) fun t ht => ?_
  exact Tells.ite (fun _ => Tells.now (.inl (by decide))) (fun _ => Tells.now ht)

theorem szMapS_tells (l : List S115) (a : Int) (hl : l.length ≤ maxLen) (hm : ∀ m ∈ l, m.f1.length ≤ maxLen) (h0 : 0 ≤ a) (h1 : a ≤ 1048576) : Tells (fun k => laws_szMapS.f k l a) (LeftOf a (l.length + sumOf szM l)) := by
  unfold laws_szMapS.f
  rw [minus hl h0 h1]
  refine Tells.ite (fun _ => Tells.now (.inl (by decide))) (fun c => ?_)
  refine (size_loop l szM (fun k a i => laws_szMapS.l0 k l a i) (fun _ i a => laws_szMap.f ((rd_T115 l i).f0) ((rd_T115 l i).f1) a) (fun k a i => by simp only [laws_szMapS.l0]) (fun j hj b hb0 hb1 => ?_) (by omega) l.length (a - l.length) 0 (by omega) (by omega) (by omega) (by omega)).mono ?_
  · rw [rd115 l j hj]
    exact szMap_tells _ _ (hm _ (List.getElem_mem hj)) hb0 hb1
  · intro r hr
    rw [List.drop_zero] at hr
    rcases hr with hr | ⟨h4, h5⟩
    · exact .inl hr
    · exact .inr ⟨h4, by omega⟩

theorem szCode_tells (c : S83) (a : Int) (h2 : c.f2.length ≤ maxLen) (h3 : c.f3.length ≤ maxLen) (hm : ∀ m ∈ c.f3, m.f1.length ≤ maxLen) (h0 : 0 ≤ a) (h1 : a ≤ 1048576) : Tells (fun k => laws_szCode.f k c.f0 c.f1 c.f2 c.f3 a) (LeftOf a (szC c)) := by
  unfold laws_szCode.f
  refine Tells.bind (one_list (fun _ => laws_szInsS.f c.f2 a) c.f2.length a h2 h0 h1 (fun _ => rfl)) fun t ht => ?_
  refine Tells.ite (fun _ => Tells.now (.inl (by decide))) (fun cc => ?_)
  rcases ht with ht | ⟨h4, h5⟩
  · exact absurd ht cc
  · refine Tells.bind (szMapS_tells c.f3 t h3 hm h4 (by omega)) fun s hs => ?_
    refine Tells.ite (fun _ => Tells.now (.inl (by decide))) (fun cc => Tells.now ?_)
    rcases hs with hs | ⟨h6, h7⟩
    · exact absurd hs cc
    · exact .inr ⟨h6, by unfold szC; omega⟩

theorem szImage_tells (l0 : List (List Bool)) (l1 : List S83) (a2 : Int) (hf : Fits l0 l1) : Tells (fun k => laws_szImage.f k l0 l1 a2 1048576) (LeftOf 1048576 (szAll l0 l1)) := by
  obtain ⟨f0, f1, f2, f3⟩ := hf
  unfold laws_szImage.f
  have e0 : Tells (fun k => laws_szBoolSS.f k l0 1048576) (LeftOf 1048576 (l0.length + sumOf List.length l0)) := by
    unfold laws_szBoolSS.f
    rw [minus f0 (by decide) (by decide)]
    refine Tells.ite (fun _ => Tells.now (.inl (by decide))) (fun c => ?_)
    refine (size_loop l0 List.length (fun k a i => laws_szBoolSS.l0 k l0 a i) (fun _ i a => laws_szBoolS.f (rd_L1 l0 i) a) (fun k a i => by simp only [laws_szBoolSS.l0]) (fun j hj b hb0 hb1 => ?_) (by omega) l0.length (1048576 - l0.length) 0 (by omega) (by omega) (by omega) (by omega)).mono ?_
    · rw [rdL1 l0 j hj]
      exact one_list (fun _ => laws_szBoolS.f l0[j] b) _ b (f1 _ (List.getElem_mem hj)) hb0 hb1 (fun _ => rfl)
    · intro r hr
      rw [List.drop_zero] at hr
      rcases hr with hr | ⟨h4, h5⟩
      · exact .inl hr
      · exact .inr ⟨h4, by omega⟩
  refine Tells.bind e0 fun t ht => ?_
  refine Tells.ite (fun _ => Tells.now (.inl (by decide))) (fun cc => ?_)
  rcases ht with ht | ⟨h4, h5⟩
  · exact absurd ht cc
  have e1 : Tells (fun k => laws_szCodeS.f k l1 t) (LeftOf t (l1.length + sumOf szC l1)) := by
    unfold laws_szCodeS.f
    rw [minus f2 h4 (by omega)]
    refine Tells.ite (fun _ => Tells.now (.inl (by decide))) (fun c => ?_)
    refine (size_loop l1 szC (fun k a i => laws_szCodeS.l0 k l1 a i) (fun k i a => laws_szCode.f k ((rd_T83 l1 i).f0) ((rd_T83 l1 i).f1) ((rd_T83 l1 i).f2) ((rd_T83 l1 i).f3) a) (fun k a i => by simp only [laws_szCodeS.l0]) (fun j hj b hb0 hb1 => ?_) (by omega) l1.length (t - l1.length) 0 (by omega) (by omega) (by omega) (by omega)).mono ?_
    · rw [rd83 l1 j hj]
      have := f3 _ (List.getElem_mem hj)
      exact szCode_tells _ _ this.1 this.2.1 this.2.2 hb0 hb1
    · intro r hr
      rw [List.drop_zero] at hr
      rcases hr with hr | ⟨h6, h7⟩
      · exact .inl hr
      · exact .inr ⟨h6, by omega⟩
  refine Tells.bind e1 fun s hs => ?_
  refine Tells.ite (fun _ => Tells.now (.inl (by decide))) (fun cc => Tells.now ?_)
  rcases hs with hs | ⟨h6, h7⟩
  · exact absurd hs cc
  · exact .inr ⟨h6, by unfold szAll; omega⟩

/-! ### Handing over -/
/-- No list of an image is long. -/
def Short (l0 : List (List Bool)) (l1 : List S83) : Prop := l0.length ≤ 1048576 ∧ (∀ s ∈ l0, s.length ≤ 1048576) ∧ l1.length ≤ 1048576 ∧ ∀ c ∈ l1, c.f2.length ≤ 1048576 ∧ c.f3.length ≤ 1048576 ∧ ∀ m ∈ c.f3, m.f1.length ≤ 1048576
theorem sum_mem {α : Type} (sz : α → Nat) {l : List α} {x : α} (h : x ∈ l) : sz x ≤ sumOf sz l := by
  induction l with
  | nil => cases h
  | cons y l ih =>
    rcases List.mem_cons.1 h with rfl | h
    · exact Nat.le_add_right _ _
    · exact Nat.le_trans (ih h) (Nat.le_add_left _ _)
theorem short_of {l0 : List (List Bool)} {l1 : List S83} (h : szAll l0 l1 ≤ 1048576) : Short l0 l1 := by
  unfold szAll at h
  refine ⟨by omega, fun s hs => ?_, by omega, fun c hc => ?_⟩
  · have := sum_mem List.length hs; omega
  · have h1 : c.f2.length + c.f3.length + sumOf szM c.f3 ≤ sumOf szC l1 := sum_mem szC hc
    refine ⟨by omega, by omega, fun m hm => ?_⟩
    have h2 : m.f1.length ≤ sumOf szM c.f3 := sum_mem szM hm
    omega

theorem toBoolS_tells (x : List Bool) (hx : x.length ≤ 1048576) : Tells (fun k => laws_toBoolS.f k x) (fun r => r = x) := by
  unfold laws_toBoolS.f
  refine Tells.pos (by omega) (Tells.pos (by omega) ?_)
  have := copy_loop x id (fun k o i => laws_toBoolS.l0 k x o i) (fun _ i => some (rdOf false x i)) (fun k x3 i => by simp only [laws_toBoolS.l0, Option.bind_some]) (fun j hj => Tells.now (by rw [rdB x j hj]; rfl)) (by omega) x.length (List.replicate x.length false) 0 (by simp) (by omega) (by omega) (by simp)
  rw [List.map_id] at this
  exact this
theorem toBoolSS_tells (x : List (List Bool)) (hx : x.length ≤ 1048576) (hs : ∀ s ∈ x, s.length ≤ 1048576) : Tells (fun k => laws_toBoolSS.f k x) (fun r => r = x) := by
  unfold laws_toBoolSS.f
  refine Tells.pos (by omega) (Tells.pos (by omega) ?_)
  have := copy_loop x id (fun k o i => laws_toBoolSS.l0 k x o i) (fun k i => laws_toBoolS.f k (rd_L1 x i)) (fun k x3 i => by simp only [laws_toBoolSS.l0]) (fun j hj => by rw [rdL1 x j hj]; exact toBoolS_tells _ (hs _ (List.getElem_mem hj))) (by omega) x.length (List.replicate x.length []) 0 (by simp) (by omega) (by omega) (by simp)
  rw [List.map_id] at this
  exact this
theorem toIntS_tells (x : List Int) (hx : x.length ≤ 1048576) : Tells (fun k => laws_toIntS.f k x) (fun r => r = x) := by
  unfold laws_toIntS.f
  refine Tells.pos (by omega) (Tells.pos (by omega) ?_)
  have := copy_loop x id (fun k o i => laws_toIntS.l0 k x o i) (fun _ i => some (rd x i)) (fun k x3 i => by simp only [laws_toIntS.l0, Option.bind_some]) (fun j hj => Tells.now (by rw [rd_eq x j hj]; rfl)) (by omega) x.length (List.replicate x.length 0) 0 (by simp) (by omega) (by omega) (by simp)
  rw [List.map_id] at this
  exact this
theorem toInsS_tells (x : List S117) (hx : x.length ≤ 1048576) : Tells (fun k => laws_toInsS.f k x) (fun r => r = x.map toI) := by
  unfold laws_toInsS.f
  refine Tells.pos (by omega) (Tells.pos (by omega) ?_)
  exact copy_loop x toI (fun k o i => laws_toInsS.l0 k x o i) (fun _ i => some (toI (rd_T117 x i))) (fun k x3 i => by simp only [laws_toInsS.l0, laws_toIns.f, Option.bind_some]; rfl) (fun j hj => Tells.now (by rw [rd117 x j hj])) (by omega) x.length (List.replicate x.length z68) 0 (by simp) (by omega) (by omega) (by simp)
theorem toMapS_tells (x : List S115) (hx : x.length ≤ 1048576) (hm : ∀ m ∈ x, m.f1.length ≤ 1048576) : Tells (fun k => laws_toMapS.f k x) (fun r => r = x.map toM) := by
  unfold laws_toMapS.f
  refine Tells.pos (by omega) (Tells.pos (by omega) ?_)
  refine copy_loop x toM (fun k o i => laws_toMapS.l0 k x o i) (fun k i => (laws_toMap.f k ((rd_T115 x i).f0) ((rd_T115 x i).f1)).bind fun bt => some (⟨bt.1, bt.2⟩ : S72)) (fun k x3 i => by simp only [laws_toMapS.l0, Option.bind_assoc, Option.bind_some]) (fun j hj => ?_) (by omega) x.length (List.replicate x.length z72) 0 (by simp) (by omega) (by omega) (by simp)
  rw [rd115 x j hj]
  unfold laws_toMap.f
  refine Tells.bind (P := fun r => r = (x[j].f0, x[j].f1)) (Tells.bind (toIntS_tells _ (hm _ (List.getElem_mem hj))) fun t ht => Tells.now (by rw [ht])) fun t ht => Tells.now ?_
  rw [ht]; rfl
theorem toCode_tells (c : S83) (h2 : c.f2.length ≤ 1048576) (h3 : c.f3.length ≤ 1048576) (hm : ∀ m ∈ c.f3, m.f1.length ≤ 1048576) : Tells (fun k => laws_toCode.f k c.f0 c.f1 c.f2 c.f3) (fun r => r = (c.f0, c.f1, c.f2.map toI, c.f3.map toM)) := by
  unfold laws_toCode.f
  refine Tells.bind (toInsS_tells _ h2) fun t ht => Tells.bind (toMapS_tells _ h3 hm) fun s hs => Tells.now ?_
  rw [ht, hs]
theorem toImage_tells (l0 : List (List Bool)) (l1 : List S83) (a2 : Int) (hs : Short l0 l1) : Tells (fun k => laws_toImage.f k l0 l1 a2) (fun r => r = (l0, l1.map toC, a2)) := by
  obtain ⟨f0, f1, f2, f3⟩ := hs
  unfold laws_toImage.f
  refine Tells.bind (toBoolSS_tells _ f0 f1) fun t ht => ?_
  have e1 : Tells (fun k => laws_toCodeS.f k l1) (fun r => r = l1.map toC) := by
    unfold laws_toCodeS.f
    refine Tells.pos (by omega) (Tells.pos (by omega) ?_)
    refine copy_loop l1 toC (fun k o i => laws_toCodeS.l0 k l1 o i) (fun k i => (laws_toCode.f k ((rd_T83 l1 i).f0) ((rd_T83 l1 i).f1) ((rd_T83 l1 i).f2) ((rd_T83 l1 i).f3)).bind fun bt => some (⟨bt.1, bt.2.1, bt.2.2.1, bt.2.2.2⟩ : S53)) (fun k x3 i => by simp only [laws_toCodeS.l0, Option.bind_assoc, Option.bind_some]) (fun j hj => ?_) (by omega) l1.length (List.replicate l1.length z53) 0 (by simp) (by omega) (by omega) (by simp)
    rw [rd83 l1 j hj]
    have h := f3 _ (List.getElem_mem hj)
    refine Tells.bind (toCode_tells _ h.1 h.2.1 h.2.2) fun t ht => Tells.now ?_
    rw [ht]; rfl
  refine Tells.bind e1 fun s hs => Tells.now ?_
  rw [ht, hs]

/-! ### An image equals itself -/
theorem rd53 (l : List S53) (j : Nat) (h : j < l.length) : rd_T53 l (j : Int) = l[j] := by
  unfold rd_T53; rw [Int.toNat_natCast, List.getD_eq_getElem?_getD, List.getElem?_eq_getElem h]; rfl
theorem rd72 (l : List S72) (j : Nat) (h : j < l.length) : rd_T72 l (j : Int) = l[j] := by
  unfold rd_T72; rw [Int.toNat_natCast, List.getD_eq_getElem?_getD, List.getElem?_eq_getElem h]; rfl
theorem eqBoolS_tells (x : List Bool) (hx : x.length ≤ 1048576) : Tells (fun k => laws_eqBoolS.f k x x) (fun r => r = true) := by
  unfold laws_eqBoolS.f
  refine Tells.pos rfl ?_
  exact eq_loop x.length (fun k i => laws_eqBoolS.l0 k x x i) (fun _ i => some (!(rdOf false x i != rdOf false x i))) (fun k i => by simp only [laws_eqBoolS.l0, Option.bind_some, bne_self_eq_false, Bool.not_false, if_true, Bool.false_eq_true, if_false]) (fun j hj => Tells.now (by simp)) (by omega) x.length 0 (by omega) (by omega)
theorem eqIntS_tells (x : List Int) (hx : x.length ≤ 1048576) : Tells (fun k => laws_eqIntS.f k x x) (fun r => r = true) := by
  unfold laws_eqIntS.f
  refine Tells.pos rfl ?_
  exact eq_loop x.length (fun k i => laws_eqIntS.l0 k x x i) (fun _ i => some true) (fun k i => by simp only [laws_eqIntS.l0, Option.bind_some, if_true]) (fun j hj => Tells.now rfl) (by omega) x.length 0 (by omega) (by omega)
theorem eqBoolSS_tells (x : List (List Bool)) (hx : x.length ≤ 1048576) (hs : ∀ s ∈ x, s.length ≤ 1048576) : Tells (fun k => laws_eqBoolSS.f k x x) (fun r => r = true) := by
  unfold laws_eqBoolSS.f
  refine Tells.pos rfl ?_
  exact eq_loop x.length (fun k i => laws_eqBoolSS.l0 k x x i) (fun k i => laws_eqBoolS.f k (rd_L1 x i) (rd_L1 x i)) (fun k i => by simp only [laws_eqBoolSS.l0]) (fun j hj => by rw [rdL1 x j hj]; exact eqBoolS_tells _ (hs _ (List.getElem_mem hj))) (by omega) x.length 0 (by omega) (by omega)
theorem eqInsS_tells (x : List S68) (hx : x.length ≤ 1048576) : Tells (fun k => laws_eqInsS.f k x x) (fun r => r = true) := by
  unfold laws_eqInsS.f
  refine Tells.pos rfl ?_
  exact eq_loop x.length (fun k i => laws_eqInsS.l0 k x x i) (fun _ i => laws_eqIns.f ((rd_T68 x i).f0) ((rd_T68 x i).f1) ((rd_T68 x i).f2) ((rd_T68 x i).f3) ((rd_T68 x i).f4) ((rd_T68 x i).f0) ((rd_T68 x i).f1) ((rd_T68 x i).f2) ((rd_T68 x i).f3) ((rd_T68 x i).f4)) (fun k i => by simp only [laws_eqInsS.l0]) (fun j hj => Tells.eq (by simp only [laws_eqIns.f, if_true]) rfl) (by omega) x.length 0 (by omega) (by omega)
theorem eqMapS_tells (x : List S72) (hx : x.length ≤ 1048576) (hm : ∀ m ∈ x, m.f1.length ≤ 1048576) : Tells (fun k => laws_eqMapS.f k x x) (fun r => r = true) := by
  unfold laws_eqMapS.f
  refine Tells.pos rfl ?_
  refine eq_loop x.length (fun k i => laws_eqMapS.l0 k x x i) (fun k i => laws_eqMap.f k ((rd_T72 x i).f0) ((rd_T72 x i).f1) ((rd_T72 x i).f0) ((rd_T72 x i).f1)) (fun k i => by simp only [laws_eqMapS.l0]) (fun j hj => ?_) (by omega) x.length 0 (by omega) (by omega)
  rw [rd72 x j hj]
  unfold laws_eqMap.f
  refine Tells.pos rfl (Tells.bind (eqIntS_tells _ (hm _ (List.getElem_mem hj))) fun t ht => Tells.pos ht (Tells.now rfl))
theorem eqImage_tells (l0 : List (List Bool)) (l1 : List S83) (a2 : Int) (hs : Short l0 l1) : Tells (fun k => laws_eqImage.f k l0 (l1.map toC) a2 l0 (l1.map toC) a2) (fun r => r = true) := by
  obtain ⟨f0, f1, f2, f3⟩ := hs
  unfold laws_eqImage.f
  refine Tells.bind (eqBoolSS_tells _ f0 f1) fun t ht => Tells.pos ht ?_
  have e1 : Tells (fun k => laws_eqCodeS.f k (l1.map toC) (l1.map toC)) (fun r => r = true) := by
    unfold laws_eqCodeS.f
    refine Tells.pos rfl ?_
    refine eq_loop (l1.map toC).length (fun k i => laws_eqCodeS.l0 k (l1.map toC) (l1.map toC) i) (fun k i => laws_eqCode.f k ((rd_T53 (l1.map toC) i).f0) ((rd_T53 (l1.map toC) i).f1) ((rd_T53 (l1.map toC) i).f2) ((rd_T53 (l1.map toC) i).f3) ((rd_T53 (l1.map toC) i).f0) ((rd_T53 (l1.map toC) i).f1) ((rd_T53 (l1.map toC) i).f2) ((rd_T53 (l1.map toC) i).f3)) (fun k i => by simp only [laws_eqCodeS.l0]) (fun j hj => ?_) (by rw [List.length_map]; omega) (l1.map toC).length 0 (by omega) (by omega)
    rw [List.length_map] at hj
    have h := f3 _ (List.getElem_mem hj)
    rw [rd53 _ j (by rw [List.length_map]; exact hj), List.getElem_map]
    unfold laws_eqCode.f
    refine Tells.pos rfl (Tells.pos rfl (Tells.bind (eqInsS_tells _ (by unfold toC; rw [List.length_map]; exact h.1)) fun t ht => Tells.pos ht (Tells.bind (eqMapS_tells _ (by unfold toC; rw [List.length_map]; exact h.2.1) (fun m hm => ?_)) fun t ht => Tells.pos ht (Tells.now rfl))))
    obtain ⟨m0, hm0, rfl⟩ := List.mem_map.1 hm
    exact h.2.2 _ hm0
  refine Tells.bind e1 fun t ht => Tells.pos ht (Tells.pos rfl (Tells.now rfl))

end Go.Proofs.Ytkfeoilnhpfknaa.ImgEFnExactImageBytes
