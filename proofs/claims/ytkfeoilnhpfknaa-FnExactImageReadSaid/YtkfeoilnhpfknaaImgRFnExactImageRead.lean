/- Plain laws of the printed eqImage (an image equals itself) and of what may be an image; for a law whose argument is no image. -/
import Derived.Test.YtkfeoilnhpfknaaQFnExactImageReadx0
import Derived.Test.YtkfeoilnhpfknaaQFnExactImageReadx1
import Derived.Test.YtkfeoilnhpfknaaQFnExactImageReadx2
import Derived.Test.YtkfeoilnhpfknaaQFnExactImageReadx3
import Derived.Test.YtkfeoilnhpfknaaQFnExactImageReadx4
import Derived.Test.YtkfeoilnhpfknaaQFnExactImageReadx5
import Derived.Test.YtkfeoilnhpfknaaQFnExactImageReadx6
import Derived.Test.YtkfeoilnhpfknaaQFnExactImageReadx7
import Derived.Test.YtkfeoilnhpfknaaQFnExactImageReadx8
import Derived.Test.YtkfeoilnhpfknaaQFnExactImageReadx9
import Derived.Test.YtkfeoilnhpfknaaLoops
import Derived.Test.YtkfeoilnhpfknaaImgTFnExactImageRead
import Derived.Test.YtkfeoilnhpfknaaImnFnExactImageRead
namespace Go.Proofs.Ytkfeoilnhpfknaa.ImgRFnExactImageRead
open Go.RowKit Go.Proofs.Ytkfeoilnhpfknaa.QFnExactImageRead Go.Proofs.YtkfeoilnhpfknaaW.PrintWords Go.Proofs.YtkfeoilnhpfknaaW.PrintLast Go.Proofs.Ytkfeoilnhpfknaa.Aid Go.Proofs.Ytkfeoilnhpfknaa.Loops
open Go.Proofs.Ytkfeoilnhpfknaa.ImFnExactImageRead (imgB imgS structB structS mapB mapS codeB codeS insB insS headB headS putB putB_len lowB lowB_len twoB twosB twosB_len sh bytesU byteU ImgOk CodeOk SlotsOk MapsOk boolI safeTo inB rd53_get)
open Go.Proofs.Ytkfeoilnhpfknaa.ImgTFnExactImageRead (inB_iff)

theorem rdL1 (l : List (List Bool)) (j : Nat) (h : j < l.length) : rd_L1 l (j : Int) = l[j] := by
  unfold rd_L1; rw [Int.toNat_natCast, List.getD_eq_getElem?_getD, List.getElem?_eq_getElem h]; rfl
theorem rdB (l : List Bool) (j : Nat) (h : j < l.length) : rdOf false l (j : Int) = l[j] := by
  unfold rdOf; rw [Int.toNat_natCast, List.getD_eq_getElem?_getD, List.getElem?_eq_getElem h]; rfl

theorem rd53 (l : List S53) (j : Nat) (h : j < l.length) : rd_T53 l (j : Int) = l[j] := by
  unfold rd_T53; rw [Int.toNat_natCast, List.getD_eq_getElem?_getD, List.getElem?_eq_getElem h]; rfl
theorem rd72 (l : List S72) (j : Nat) (h : j < l.length) : rd_T72 l (j : Int) = l[j] := by
  unfold rd_T72; rw [Int.toNat_natCast, List.getD_eq_getElem?_getD, List.getElem?_eq_getElem h]; rfl
theorem rd68 (l : List S68) (j : Nat) (h : j < l.length) : rd_T68 l (j : Int) = l[j] := by
  unfold rd_T68; rw [Int.toNat_natCast, List.getD_eq_getElem?_getD, List.getElem?_eq_getElem h]; rfl
theorem eqBoolS_tells (x : List Bool) (hx : x.length ≤ 1048576) : Tells (fun k => laws_eqBoolS.f k x x) (fun r => r = true) := by
  unfold laws_eqBoolS.f
  refine Tells.pos rfl ?_
  exact eq_loop x.length (fun k i => laws_eqBoolS.l0 k x x i) (fun _ i => some (!(rdOf false x i != rdOf false x i))) (fun k i => by simp only [laws_eqBoolS.l0, Option.bind_some, bne_self_eq_false, Bool.not_false, if_true, Bool.false_eq_true, if_false]) (fun j hj => Tells.now (by simp)) (by omega) x.length 0 (by omega) (by omega)
theorem eqIntS_tells (x : List Int) (hx : x.length ≤ 1048576) : Tells (fun k => laws_eqIntS.f k x x) (fun r => r = true) := by
  unfold laws_eqIntS.f
  refine Tells.pos rfl ?_
  exact eq_loop x.length (fun k i => laws_eqIntS.l0 k x x i) (fun _ i => some true) (fun k i => by simp only [laws_eqIntS.l0, Option.bind_some, if_true]) (fun j hj => Tells.now rfl) (by omega) x.length 0 (by omega) (by omega)
theorem eqBoolSS_tells (x : List (List Bool)) (hx : x.length ≤ 1048576) (hs : ∀ s ∈ x, s.length ≤ 1048576) : Tells (fun k => laws_eqBoolSS.f k x x) (fun r => r = true) := by
  unfold laws_eqBoolSS.f
  refine Tells.pos rfl ?_
  exact eq_loop x.length (fun k i => laws_eqBoolSS.l0 k x x i) (fun k i => laws_eqBoolS.f k (rd_L1 x i) (rd_L1 x i)) (fun k i => by simp only [laws_eqBoolSS.l0]) (fun j hj => by rw [rdL1 x j hj]; exact eqBoolS_tells _ (hs _ (List.getElem_mem hj))) (by omega) x.length 0 (by omega) (by omega)
theorem eqInsS_tells (x : List S68) (hx : x.length ≤ 1048576) : Tells (fun k => laws_eqInsS.f k x x) (fun r => r = true) := by
  unfold laws_eqInsS.f
  refine Tells.pos rfl ?_
  exact eq_loop x.length (fun k i => laws_eqInsS.l0 k x x i) (fun _ i => laws_eqIns.f ((rd_T68 x i).f0) ((rd_T68 x i).f1) ((rd_T68 x i).f2) ((rd_T68 x i).f3) ((rd_T68 x i).f4) ((rd_T68 x i).f0) ((rd_T68 x i).f1) ((rd_T68 x i).f2) ((rd_T68 x i).f3) ((rd_T68 x i).f4)) (fun k i => by simp only [laws_eqInsS.l0]) (fun j hj => Tells.eq (by simp only [laws_eqIns.f, if_true]) rfl) (by omega) x.length 0 (by omega) (by omega)
theorem eqMapS_tells (x : List S72) (hx : x.length ≤ 1048576) (hm : ∀ m ∈ x, m.f1.length ≤ 1048576) : Tells (fun k => laws_eqMapS.f k x x) (fun r => r = true) := by
  unfold laws_eqMapS.f
  refine Tells.pos rfl ?_
  refine eq_loop x.length (fun k i => laws_eqMapS.l0 k x x i) (fun k i => laws_eqMap.f k ((rd_T72 x i).f0) ((rd_T72 x i).f1) ((rd_T72 x i).f0) ((rd_T72 x i).f1)) (fun k i => by simp only [laws_eqMapS.l0]) (fun j hj => ?_) (by omega) x.length 0 (by omega) (by omega)
  rw [rd72 x j hj]
  unfold laws_eqMap.f
  refine Tells.pos rfl (Tells.bind (eqIntS_tells _ (hm _ (List.getElem_mem hj))) fun t ht => Tells.pos ht (Tells.now rfl))
/-- No list of an image is long. -/
def Shorts (l0 : List (List Bool)) (l1 : List S53) : Prop := l0.length ≤ 1048576 ∧ (∀ s ∈ l0, s.length ≤ 1048576) ∧ l1.length ≤ 1048576 ∧ ∀ c ∈ l1, c.f2.length ≤ 1048576 ∧ c.f3.length ≤ 1048576 ∧ ∀ m ∈ c.f3, m.f1.length ≤ 1048576
theorem eqImage_tells (l0 : List (List Bool)) (l1 : List S53) (a2 : Int) (hs : Shorts l0 l1) : Tells (fun k => laws_eqImage.f k l0 l1 a2 l0 l1 a2) (fun r => r = true) := by
  obtain ⟨f0, f1, f2, f3⟩ := hs
  unfold laws_eqImage.f
  refine Tells.bind (eqBoolSS_tells _ f0 f1) fun t ht => Tells.pos ht ?_
  have e1 : Tells (fun k => laws_eqCodeS.f k l1 l1) (fun r => r = true) := by
    unfold laws_eqCodeS.f
    refine Tells.pos rfl ?_
    refine eq_loop l1.length (fun k i => laws_eqCodeS.l0 k l1 l1 i) (fun k i => laws_eqCode.f k ((rd_T53 l1 i).f0) ((rd_T53 l1 i).f1) ((rd_T53 l1 i).f2) ((rd_T53 l1 i).f3) ((rd_T53 l1 i).f0) ((rd_T53 l1 i).f1) ((rd_T53 l1 i).f2) ((rd_T53 l1 i).f3)) (fun k i => by simp only [laws_eqCodeS.l0]) (fun j hj => ?_) (by omega) l1.length 0 (by omega) (by omega)
    have h := f3 _ (List.getElem_mem hj)
    rw [rd53 _ j hj]
    unfold laws_eqCode.f
    exact Tells.pos rfl (Tells.pos rfl (Tells.bind (eqInsS_tells _ h.1) fun t ht => Tells.pos ht (Tells.bind (eqMapS_tells _ h.2.1 h.2.2) fun t ht => Tells.pos ht (Tells.now rfl))))
  refine Tells.bind e1 fun t ht => Tells.pos ht (Tells.pos rfl (Tells.now rfl))

theorem slots_in {f : Int} {l : List Int} (hf : 3 ≤ f ∧ f ≤ 1000) (h : SlotsOk f l) : l.length ≤ 1000 ∧ ∀ n ∈ l, 0 ≤ n ∧ n ≤ 1099511627776 := by
  have w0 : wrap64 (f - 1) = f - 1 := by unfold wrap64; omega
  have hr : ∀ j : Nat, (hj : j < l.length) → rd l j = l[j] := fun j hj => Aid.rd_eq l j hj
  have h1 : ∀ j : Nat, j < l.length → (3 + j : Int) ≤ rd l j ∧ rd l j ≤ f - 1 := by
    intro j
    induction j with
    | zero =>
      intro hj
      have := (inB_iff _ _ _).1 (h 0 hj).1
      rw [w0] at this
      exact ⟨by omega, this.2⟩
    | succ j ih =>
      intro hj
      have a := ih (by omega)
      have b := (h (j + 1) hj)
      have c := (inB_iff _ _ _).1 b.1
      rw [w0] at c
      have d := b.2 (by omega)
      rw [show ((j + 1 : Nat) : Int) - 1 = (j : Int) from by omega] at d
      exact ⟨by omega, c.2⟩
  refine ⟨?_, fun n hn => ?_⟩
  · by_cases hz : l.length = 0
    · omega
    · have := h1 (l.length - 1) (by omega); omega
  · obtain ⟨j, hj, rfl⟩ := List.getElem_of_mem hn
    have := h1 j hj
    rw [hr j hj] at this
    omega
theorem safe_in (ins : List S68) (i : Nat) : ∀ n ∈ safeTo ins i, 0 ≤ n ∧ n < (i : Int) := by
  induction i with
  | zero => intro n hn; cases hn
  | succ i ih =>
    intro n hn
    rw [safeTo] at hn
    split at hn
    · rcases List.mem_append.1 hn with hn | hn
      · have := ih n hn; omega
      · have := List.mem_singleton.1 hn; omega
    · have := ih n hn; omega
end Go.Proofs.Ytkfeoilnhpfknaa.ImgRFnExactImageRead
