/- Plain law: the bytes of an image that may be are the same in both listings; how many there are at most. -/
import Derived.Test.YtkfeoilnhpfknaaImgEFnExactImageBytes
import Derived.Test.YtkfeoilnhpfknaaImgSFnExactImageBytes
namespace Go.Proofs.Ytkfeoilnhpfknaa.ImgNFnExactImageBytes
open Go.RowKit Go.Proofs.Ytkfeoilnhpfknaa.QFnExactImageBytes Go.Proofs.YtkfeoilnhpfknaaW.PrintWords Go.Proofs.YtkfeoilnhpfknaaW.PrintLast Go.Proofs.Ytkfeoilnhpfknaa.Loops Go.Proofs.Ytkfeoilnhpfknaa.ImgEFnExactImageBytes
open Go.Proofs.Ytkfeoilnhpfknaa.ImFnExactImageBytes (imgB imgS structB structS mapB mapS codeB codeS insB insS headB headS putB putB_len lowB lowB_len twoB twosB twosB_len sh bytesU byteU ImgOk CodeOk SlotsOk MapsOk boolI safeTo inB rd53_get)
open Go.Proofs.Ytkfeoilnhpfknaa.ImgTFnExactImageBytes (inB_iff)

theorem flat_most {α : Type} (l : List α) (f : α → List Int) (sz : α → Nat) (a b : Nat) (h : ∀ x, (f x).length ≤ a + b * sz x) : (l.flatMap f).length ≤ a * l.length + b * sumOf sz l := by
  induction l with
  | nil => simp [sumOf]
  | cons x l ih =>
    have := h x
    rw [List.flatMap_cons, List.length_append, List.length_cons, sumOf, Nat.mul_add, Nat.mul_add]
    omega
theorem ins_len (l : List S68) : (l.flatMap insB).length = 12 * l.length := by
  induction l with
  | nil => rfl
  | cons x l ih => rw [List.flatMap_cons, List.length_append, ih, List.length_cons]; simp only [insB, List.length_append, lowB_len, List.length_cons, List.length_nil]; omega
theorem img_most (l0 : List (List Bool)) (l1 : List S83) (a2 : Int) : (imgB l0 (l1.map toC) a2).length ≤ 8 + 12 * szAll l0 l1 := by
  have e0 := flat_most l0 structB List.length 2 1 (fun s => by simp only [structB, List.length_append, putB_len, List.length_map, List.length_cons, List.length_nil]; omega)
  have e1 := flat_most l1 (fun c => codeB (toC c)) szC 8 12 (fun c => by
    have e2 := flat_most c.f3 (fun m => mapB (toM m)) szM 4 2 (fun m => by simp only [mapB, toM, szM, List.length_append, putB_len, List.length_cons, List.length_nil]; omega)
    have e3 := ins_len (c.f2.map toI)
    rw [List.flatMap_map, List.length_map] at e3
    simp only [codeB, toC, szC, List.length_append, putB_len, List.length_map, List.flatMap_map, List.length_cons, List.length_nil]
    omega)
  unfold szAll
  simp only [imgB, headB, List.length_append, putB_len, List.flatMap_map, List.length_cons, List.length_nil]
  omega

/-! ### The two listings -/
theorem two_is (n : Int) (h : 0 ≤ n ∧ n ≤ 1099511627776) : twoB n = lowB n 2 := by
  have e1 : Int.tmod n 256 = n % 256 := Int.tmod_eq_emod_of_nonneg h.1
  have e2 : Int.tdiv n 256 = n / 256 := Int.tdiv_eq_ediv_of_nonneg h.1
  show [(Int.tmod n 256) % 256, (wrap64 (Int.tdiv n 256)) % 256] = ([] ++ [n % 256]) ++ [n / 256 % 256]
  rw [e1, e2]
  have e3 : wrap64 (n / 256) = n / 256 := by unfold wrap64; omega
  rw [e3, Int.emod_emod]
  rfl
theorem twos_is (l : List Int) (h : ∀ n ∈ l, 0 ≤ n ∧ n ≤ 1099511627776) : twosB l = putB l := by
  induction l with
  | nil => rfl
  | cons n l ih =>
    show twoB n ++ twosB l = lowB n 2 ++ putB l
    rw [two_is n (h n (List.mem_cons_self ..)), ih fun m hm => h m (List.mem_cons_of_mem _ hm)]
theorem byte_is (n : Int) (j : Nat) (hj : j < 8) : byteU n j = sh n j % 256 := by
  have hw : IntKind.u64.wrap n = n % 18446744073709551616 := by
    simp [IntKind.wrap, IntKind.bits, IntKind.signed]
  unfold byteU
  rw [hw]
  rcases j with _ | _ | _ | _ | _ | _ | _ | _ | j
  · simp only [sh]; omega
  · simp only [sh]; omega
  · simp only [sh]; omega
  · simp only [sh]; omega
  · simp only [sh]; omega
  · simp only [sh]; omega
  · simp only [sh]; omega
  · simp only [sh]; omega
  · omega
theorem low_is (n : Int) (j : Nat) (hj : j ≤ 8) : bytesU n j = lowB n j := by
  induction j with
  | zero => rfl
  | succ j ih =>
    show bytesU n j ++ [byteU n j] = lowB n j ++ [sh n j % 256]
    rw [ih (by omega), byte_is n j (by omega)]
theorem ins_is (x : S68) : insS x = insB x := by
  unfold insS insB
  rw [low_is _ _ (Nat.le_refl _)]
theorem flat_is {α : Type} (l : List α) (f g : α → List Int) (h : ∀ x ∈ l, f x = g x) : l.flatMap f = l.flatMap g := by
  induction l with
  | nil => rfl
  | cons x l ih => rw [List.flatMap_cons, List.flatMap_cons, h x (List.mem_cons_self ..), ih fun y hy => h y (List.mem_cons_of_mem _ hy)]
theorem slots_in {f : Int} {l : List Int} (hf : 3 ≤ f ∧ f ≤ 1000) (h : SlotsOk f l) : l.length ≤ 1000 ∧ ∀ n ∈ l, 0 ≤ n ∧ n ≤ 1099511627776 := by
  have w0 : wrap64 (f - 1) = f - 1 := by unfold wrap64; omega
  have hr : ∀ j : Nat, (hj : j < l.length) → rd l j = l[j] := fun j hj => Aid.rd_eq l j hj
  have h1 : ∀ j : Nat, j < l.length → (3 + j : Int) ≤ rd l j ∧ rd l j ≤ f - 1 := by
    intro j
    induction j with
    | zero =>
      intro hj
      have := (inB_iff _ _ _).1 (h 0 hj).1
      rw [w0] at this
      exact ⟨by omega, this.2⟩
    | succ j ih =>
      intro hj
      have a := ih (by omega)
      have b := (h (j + 1) hj)
      have c := (inB_iff _ _ _).1 b.1
      rw [w0] at c
      have d := b.2 (by omega)
      rw [show ((j + 1 : Nat) : Int) - 1 = (j : Int) from by omega] at d
      exact ⟨by omega, c.2⟩
  refine ⟨?_, fun n hn => ?_⟩
  · by_cases hz : l.length = 0
    · omega
    · have := h1 (l.length - 1) (by omega); omega
  · obtain ⟨j, hj, rfl⟩ := List.getElem_of_mem hn
    have := h1 j hj
    rw [hr j hj] at this
    omega
theorem safe_in (ins : List S68) (i : Nat) : ∀ n ∈ safeTo ins i, 0 ≤ n ∧ n < (i : Int) := by
  induction i with
  | zero => intro n hn; cases hn
  | succ i ih =>
    intro n hn
    rw [safeTo] at hn
    split at hn
    · rcases List.mem_append.1 hn with hn | hn
      · have := ih n hn; omega
      · have := List.mem_singleton.1 hn; omega
    · have := ih n hn; omega
theorem imgS_is (l0 : List (List Bool)) (l1 : List S53) (a2 : Int) (h : ImgOk l0 l1 a2) : imgS l0 l1 a2 = imgB l0 l1 a2 := by
  obtain ⟨⟨h0, h1, h2, _⟩, h3, h4, _⟩ := h
  have hb := (inB_iff _ _ _).1 h2
  have e0 : headS l0 l1 a2 = headB l0 l1 a2 := by
    unfold headS headB
    rw [twos_is _ (by simp; omega)]
  have e1 : l0.flatMap structS = l0.flatMap structB := flat_is _ _ _ fun s hs => by
    have : ¬ 5 < s.length := by
      have := List.any_eq_false.1 h3 s hs
      simpa using this
    unfold structS structB
    rw [two_is _ (by omega)]
    show lowB (s.length : Int) 2 ++ s.map boolI = (lowB (s.length : Int) 2 ++ []) ++ s.map boolI
    rw [List.append_nil]
  have e2 : l1.flatMap codeS = l1.flatMap codeB := flat_is _ _ _ fun c hc => by
    obtain ⟨j, hj, rfl⟩ := List.getElem_of_mem hc
    have hk := h4 j hj
    rw [rd53 l1 j hj] at hk
    obtain ⟨⟨k0, k1, k2⟩, _, k4⟩ := hk
    have b0 := (inB_iff _ _ _).1 k0
    have b1 := (inB_iff _ _ _).1 k1
    have b2 := (inB_iff _ _ _).1 k2
    have w3 : wrap64 (3 + (l1[j]).f1) = 3 + (l1[j]).f1 := by unfold wrap64; omega
    rw [w3] at b1
    have hm : (l1[j]).f3.length ≤ (l1[j]).f2.length := by
      have := k4.1
      have := Go.Proofs.Ytkfeoilnhpfknaa.ImFnExactImageBytes.safeTo_len (l1[j]).f2 (l1[j]).f2.length
      omega
    unfold codeS codeB
    rw [twos_is _ (by simp; omega)]
    congr 1
    · congr 1
      exact flat_is _ _ _ fun x _ => ins_is x
    · refine flat_is _ _ _ fun m hmm => ?_
      obtain ⟨i, hi, rfl⟩ := List.getElem_of_mem hmm
      have km := k4.2 i hi
      rw [rd72 _ i hi] at km
      have ks := slots_in (by omega) km.1
      have kp : 0 ≤ ((l1[j]).f3[i]).f0 ∧ ((l1[j]).f3[i]).f0 ≤ 1099511627776 := by
        rw [km.2]
        have hp := safe_in (l1[j]).f2 (l1[j]).f2.length (rd (safeTo (l1[j]).f2 (l1[j]).f2.length) i) (by
          rw [Aid.rd_eq _ i (by have := k4.1; omega)]; exact List.getElem_mem _)
        omega
      unfold mapS mapB
      rw [twos_is _ (by simp; omega), twos_is _ ks.2]
  unfold imgS imgB
  rw [e0, e1, e2]

end Go.Proofs.Ytkfeoilnhpfknaa.ImgNFnExactImageBytes
