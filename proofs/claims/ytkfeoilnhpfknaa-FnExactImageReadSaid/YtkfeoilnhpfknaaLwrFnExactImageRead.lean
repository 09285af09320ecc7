/- What the law FnExactImageRead holds while it runs. -/
import Derived.Test.YtkfeoilnhpfknaaRdnFnExactImageRead
import Derived.Test.YtkfeoilnhpfknaaMkyFnExactImageRead
namespace Go.Proofs.Ytkfeoilnhpfknaa.ImFnExactImageRead
open Go.RowKit Go.Proofs.Ytkfeoilnhpfknaa.QFnExactImageRead Go.Proofs.YtkfeoilnhpfknaaW.PrintWords Go.Proofs.YtkfeoilnhpfknaaW.PrintLast
open Go.Proofs.Ytkfeoilnhpfknaa.ImgRFnExactImageRead (Shorts eqImage_tells)
open Go.Proofs.Ytkfeoilnhpfknaa.ByteQFnExactImageRead (eq_tells mark_tells to_tells upB)
open Go.Proofs.Ytkfeoilnhpfknaa.MkpFnExactImageRead (cnt mS mC cC ShortC heldImage_tells)
set_option linter.unusedVariables false
set_option linter.unusedSimpArgs false

/-- Both answers are the same. -/
def Ans (bs : List Int) (ok : Bool) (l0 : List (List Bool)) (l1 : List S53) (a2 : Int) : Prop := (ok = true ↔ SGoes bs) ∧ (if ok = true then l0 = tStructs (st0 bs) ∧ l1 = tCodes (st0 bs) ∧ a2 = tMain (st0 bs) else l0 = [] ∧ l1 = [] ∧ a2 = 0)
theorem Ans.one {bs : List Int} {ok ok' : Bool} {l0 l0' : List (List Bool)} {l1 l1' : List S53} {a2 a2' : Int} (h : Ans bs ok l0 l1 a2) (h' : Ans bs ok' l0' l1' a2') : ok' = ok ∧ l0' = l0 ∧ l1' = l1 ∧ a2' = a2 := by
  have e : ok' = ok := by
    have h1 := h.1
    have h2 := h'.1
    cases ok <;> cases ok' <;> first | rfl | (exfalso; first | exact absurd (h1.2 (h2.1 rfl)) (by decide) | exact absurd (h2.2 (h1.1 rfl)) (by decide))
  subst e
  obtain ⟨_, h⟩ := h
  obtain ⟨_, h'⟩ := h'
  by_cases c : ok' = true
  · rw [if_pos c] at h h'
    exact ⟨rfl, h'.1.trans h.1.symm, h'.2.1.trans h.2.1.symm, h'.2.2.trans h.2.2.symm⟩
  · rw [if_neg c] at h h'
    exact ⟨rfl, h'.1.trans h.1.symm, h'.2.1.trans h.2.1.symm, h'.2.2.trans h.2.2.symm⟩
theorem Ans.of_read {bs : List Int} {ok : Bool} {l0 : List (List Bool)} {l1 : List S53} {a2 : Int} (hb : Byt bs) (h1 : ok = true ↔ Goes bs) (h2 : if ok = true then l0 = vStructs (st0 bs) ∧ l1 = vCodes (st0 bs) ∧ a2 = vMain (st0 bs) else l0 = [] ∧ l1 = [] ∧ a2 = 0) : Ans bs ok l0 l1 a2 := by
  refine ⟨⟨fun h => (goes_is hb (h1.1 h)).1, fun h => h1.2 (sgoes_is hb h)⟩, ?_⟩
  by_cases c : ok = true
  · rw [if_pos c] at h2 ⊢
    obtain ⟨_, e0, e1, e2⟩ := goes_is hb (h1.1 c)
    exact ⟨h2.1.trans e0, h2.2.1.trans e1, h2.2.2.trans e2⟩
  · rw [if_neg c] at h2 ⊢
    exact h2
/-- No list of it is long. -/
theorem Ans.short {bs : List Int} {ok : Bool} {l0 : List (List Bool)} {l1 : List S53} {a2 : Int} (hb : Byt bs) (h : Ans bs ok l0 l1 a2) : Shorts l0 l1 := by
  obtain ⟨h1, h2⟩ := h
  by_cases c : ok = true
  · rw [if_pos c] at h2
    obtain ⟨rfl, rfl, _⟩ := h2
    have hg := h1.1 c
    have hby : Byt (st0 bs).1 := by
      have h := hb
      rw [← List.take_append_drop 2 bs] at h
      exact h.right
    obtain ⟨p0, p1, _, p3, p4⟩ := (img_sound (st0 bs) hby hg.2.2.2.2.1).2
    refine ⟨by omega, fun s hs => by have := p3 s hs; unfold PS at this; omega, by omega, fun cc hc => ?_⟩
    obtain ⟨_, _, q2, q3, _, q5⟩ := p4 cc hc
    exact ⟨by omega, by omega, fun m hm => by have := (q5 m hm).2.1; omega⟩
  · rw [if_neg c] at h2
    obtain ⟨rfl, rfl, _⟩ := h2
    exact ⟨by simp, fun s hs => by (cases hs), by simp, fun cc hc => by (cases hc)⟩

/-! ### The calls -/
theorem toB_c (A : Option Addr) (c : Nat) (bs : List Int) (w : World) (hl : bs.length ≤ 1048576) (hC : Kd.C (Kd.int .u8) w A bs.length bs) (hc : bs.length ≤ c) :
    Calls Try.prog 18 #[.slice A bs.length c] w (fun e w' => ∃ V m, e = .returned (.slice V bs.length m) ∧ bs.length ≤ m ∧ Kd.R (Kd.int .u8) 5 w' w.heap.size (fun _ => True) (.slice V bs.length m) bs ∧ Below w.heap.size w w') := by
  obtain ⟨r, rfl, K, hK⟩ := to_tells bs hl
  refine (laws_toByteS.calls K A c _ _ w hC hc (hK K (Nat.le_refl _))).mono ?_
  rintro e w' ⟨v, rfl, hR, hb⟩
  obtain ⟨V, m, rfl⟩ := Kd.R_slice hR
  exact ⟨V, m, rfl, (Kd.R_reads' hR).2.1, hR, hb⟩
theorem eqB2_c (V : Option Addr) (m : Nat) (V' : Option Addr) (m' : Nat) (r : List Int) (w : World) (hr : r.length ≤ 1099511627776) (h : Kd.C (Kd.int .u8) w V r.length r) (hm : r.length ≤ m) (h' : Kd.C (Kd.int .u8) w V' r.length r) (hm' : r.length ≤ m') :
    Calls Try.prog 13 #[.slice V r.length m, .slice V' r.length m'] w (fun e w' => e = .returned (.bool true) ∧ Below w.heap.size w w') := by
  obtain ⟨t, rfl, K, hK⟩ := eq_tells r hr
  refine (laws_eqByteS.calls K V m r V' m' r true w h hm h' hm' (hK K (Nat.le_refl _))).mono ?_
  rintro e w' ⟨rfl, hd⟩
  exact ⟨rfl, hd.below⟩
theorem eqI_c (B0 : Option Addr) (d0 : Nat) (B1 : Option Addr) (d1 : Nat) (E0 : Option Addr) (f0 : Nat) (E1 : Option Addr) (f1 : Nat) (l0 : List (List Bool)) (l1 : List S53) (a2 : Int) (w : World) (hs : Shorts l0 l1) (h0 : Kd.C (Kd.slice 4 Kd.bool) w B0 l0.length l0 ∧ l0.length ≤ d0) (h1 : Kd.C k53 w B1 l1.length l1 ∧ l1.length ≤ d1) (g0 : Kd.C (Kd.slice 4 Kd.bool) w E0 l0.length l0 ∧ l0.length ≤ f0) (g1 : Kd.C k53 w E1 l1.length l1 ∧ l1.length ≤ f1) :
    Calls Try.prog 10 #[.agg #[.slice B0 l0.length d0, .slice B1 l1.length d1, .int .i64 a2], .agg #[.slice E0 l0.length f0, .slice E1 l1.length f1, .int .i64 a2]] w (fun e w' => e = .returned (.bool true) ∧ Below w.heap.size w w') := by
  obtain ⟨t, rfl, K, hK⟩ := eqImage_tells l0 l1 a2 hs
  exact laws_eqImage.calls K B0 d0 l0 B1 d1 l1 a2 E0 f0 l0 E1 f1 l1 a2 true w h0.1 h0.2 h1.1 h1.2 g0.1 g0.2 g1.1 g1.2 (hK K (Nat.le_refl _))
theorem heldI_c (B0 : Option Addr) (d0 n0 : Nat) (B1 : Option Addr) (d1 n1 : Nat) (l0 : List (List Bool)) (l1 : List S53) (a2 : Int) (w : World) (hs : Shorts l0 l1) (h0 : Kd.C (Kd.slice 4 Kd.bool) w B0 n0 (mS 1 l0) ∧ (mS 1 l0).length ≤ d0 ∧ n0 = (mS 1 l0).length) (h1 : Kd.C k53 w B1 n1 (mC (1 + cnt List.length l0) l1) ∧ (mC (1 + cnt List.length l0) l1).length ≤ d1 ∧ n1 = (mC (1 + cnt List.length l0) l1).length) :
    Calls Try.prog 20 #[.agg #[.slice B0 n0 d0, .slice B1 n1 d1, .int .i64 a2], .int .i64 1] w (fun e w' => e = .returned (.int .i64 (1 + cnt List.length l0 + cnt cC l1)) ∧ Below w.heap.size w w') := by
  obtain ⟨t, rfl, K, hK⟩ := heldImage_tells l0 l1 a2 hs.1 hs.2.1 hs.2.2.1 hs.2.2.2
  obtain ⟨g0, k0, rfl⟩ := h0
  obtain ⟨g1, k1, rfl⟩ := h1
  exact laws_heldImage.calls K B0 d0 (mS 1 l0) B1 d1 (mC (1 + cnt List.length l0) l1) a2 1 _ w g0 k0 g1 k1 (hK K (Nat.le_refl _))
theorem markBy_c (w0 w : World) (u : Value) (l : List Int) (hB : Below w0.heap.size w0 w) (hR : Kd.R (Kd.int .u8) 5 w w0.heap.size (Own u) u l) (hl : l.length ≤ 1048576) :
    Calls Try.prog 15 #[u, .int .i64 1] w (fun e w' => e = .returned (.int .i64 (1 + l.length)) ∧ Below w0.heap.size w0 w' ∧ Kept w w' (Own u)) := by
  obtain ⟨r, rfl, K, hK⟩ := mark_tells l (by omega) 1 (by omega)
  refine (laws_markByteS.calls K (Own u) u l 1 _ _ w0 w hB hR (hK K (Nat.le_refl _))).mono ?_
  rintro e w' ⟨rfl, h2, h3, h4⟩
  exact ⟨rfl, h3, h4⟩

/-! ### What is carried -/
/-- The specification's image, in blocks below s1. -/
def St (W : World) (g3 s1 : Nat) (A0 : Option Addr) (q0 : Nat) (A1 : Option Addr) (q1 : Nat) (l0 : List (List Bool)) (l1 : List S53) (a2 : Int) (cur : World) : Prop :=
  Below W.heap.size W cur ∧ W.heap.size ≤ g3 ∧ g3 < s1 ∧ s1 ≤ cur.heap.size ∧ cur.heap[g3]? = some (.cells #[.slice A0 l0.length q0, .slice A1 l1.length q1, .int .i64 a2] 30 (0, 0)) ∧ Kd.R (Kd.slice 4 Kd.bool) 55 cur W.heap.size (fun k => k < s1) (.slice A0 l0.length q0) l0 ∧ Kd.R k53 53 cur W.heap.size (fun k => k < s1) (.slice A1 l1.length q1) l1
theorem St.below {W : World} {g3 s1 : Nat} {A0 A1 : Option Addr} {q0 q1 : Nat} {l0 : List (List Bool)} {l1 : List S53} {a2 : Int} {cur cur' : World} (h : St W g3 s1 A0 q0 A1 q1 l0 l1 a2 cur) (hb : Below cur.heap.size cur cur') : St W g3 s1 A0 q0 A1 q1 l0 l1 a2 cur' := by
  obtain ⟨h1, h2, h3, h4, h5, h6, h7⟩ := h
  exact ⟨below_step h1 hb, h2, h3, Nat.le_trans h4 hb.size, blk_below h5 hb, Kd.R_below h6 hb, Kd.R_below h7 hb⟩
theorem St.kept {W : World} {g3 s1 : Nat} {A0 A1 : Option Addr} {q0 q1 : Nat} {l0 : List (List Bool)} {l1 : List S53} {a2 : Int} {cur cur' : World} {P : Nat → Prop} (h : St W g3 s1 A0 q0 A1 q1 l0 l1 a2 cur) (hb : Below W.heap.size W cur') (hk : Kept cur cur' P) (hP : ∀ k, P k → s1 ≤ k) : St W g3 s1 A0 q0 A1 q1 l0 l1 a2 cur' := by
  obtain ⟨h1, h2, h3, h4, h5, h6, h7⟩ := h
  exact ⟨hb, h2, h3, Nat.le_trans h4 hk.1, (hk.2 g3 (blk_lt h5) (fun h => by have := hP g3 h; omega)).trans h5, Kd.R_step h6 (fun k hk' hlt => hk.2 k hlt (fun h => by have := hP k h; omega)), Kd.R_step h7 (fun k hk' hlt => hk.2 k hlt (fun h => by have := hP k h; omega))⟩
/-- The program's image, in blocks of s2 and up to s3. -/
def Gm (s2 s3 g6 : Nat) (E0 : Option Addr) (f0 : Nat) (E1 : Option Addr) (f1 : Nat) (l0 : List (List Bool)) (l1 : List S53) (a2 : Int) (cur : World) : Prop :=
  cur.heap[g6]? = some (.cells #[.slice E0 l0.length f0, .slice E1 l1.length f1, .int .i64 a2] 30 (0, 0)) ∧ s3 ≤ g6 ∧ Kd.S (Kd.slice 4 Kd.bool) 55 cur s2 (fun k => k < s3) (.slice E0 l0.length f0) l0 ∧ Kd.S k53s 53 cur s2 (fun k => k < s3) (.slice E1 l1.length f1) l1
theorem Gm.below {s2 s3 g6 : Nat} {E0 E1 : Option Addr} {f0 f1 : Nat} {l0 : List (List Bool)} {l1 : List S53} {a2 : Int} {cur cur' : World} (h : Gm s2 s3 g6 E0 f0 E1 f1 l0 l1 a2 cur) (hb : Below cur.heap.size cur cur') : Gm s2 s3 g6 E0 f0 E1 f1 l0 l1 a2 cur' :=
  ⟨blk_below h.1 hb, h.2.1, Kd.S_below h.2.2.1 hb, Kd.S_below h.2.2.2 hb⟩
theorem Gm.kept {s2 s3 g6 : Nat} {E0 E1 : Option Addr} {f0 f1 : Nat} {l0 : List (List Bool)} {l1 : List S53} {a2 : Int} {cur cur' : World} {P : Nat → Prop} (h : Gm s2 s3 g6 E0 f0 E1 f1 l0 l1 a2 cur) (hs : s2 ≤ s3) (hk : Kept cur cur' P) (hP : ∀ k, P k → k < s2) : Gm s2 s3 g6 E0 f0 E1 f1 l0 l1 a2 cur' := by
  obtain ⟨h1, h2, h3, h4⟩ := h
  refine ⟨(hk.2 g6 (blk_lt h1) (fun h => by have := hP g6 h; omega)).trans h1, h2, ?_, ?_⟩
  · exact Kd.S_mono (Kd.S_step (Kd.S_bound h3) (fun k hk' hlt => hk.2 k hlt (fun h => by have := hP k h; have := hk'.2.1; omega))) (fun k hk' => hk'.1)
  · exact Kd.S_mono (Kd.S_step (Kd.S_bound h4) (fun k hk' hlt => hk.2 k hlt (fun h => by have := hP k h; have := hk'.2.1; omega))) (fun k hk' => hk'.1)
/-- .. marked. -/
def Gk (W : World) (s2 g6 : Nat) (E0 : Option Addr) (n0 f0 : Nat) (E1 : Option Addr) (n1 f1 : Nat) (m0 : List (List Bool)) (m1 : List S53) (a2 : Int) (cur : World) : Prop :=
  cur.heap[g6]? = some (.cells #[.slice E0 n0 f0, .slice E1 n1 f1, .int .i64 a2] 30 (0, 0)) ∧ Kd.R (Kd.slice 4 Kd.bool) 55 cur W.heap.size (fun _ => True) (.slice E0 n0 f0) m0 ∧ Kd.R k53s 53 cur W.heap.size (fun _ => True) (.slice E1 n1 f1) m1
theorem Gk.below {W : World} {s2 g6 : Nat} {E0 E1 : Option Addr} {n0 f0 n1 f1 : Nat} {m0 : List (List Bool)} {m1 : List S53} {a2 : Int} {cur cur' : World} (h : Gk W s2 g6 E0 n0 f0 E1 n1 f1 m0 m1 a2 cur) (hb : Below cur.heap.size cur cur') : Gk W s2 g6 E0 n0 f0 E1 n1 f1 m0 m1 a2 cur' :=
  ⟨blk_below h.1 hb, Kd.R_below h.2.1 hb, Kd.R_below h.2.2 hb⟩
/-- The marks of the program's image. -/
theorem Gm.mark {W : World} {s1 s2 s3 g3 g6 : Nat} {A0 A1 E0 E1 : Option Addr} {q0 q1 f0 f1 : Nat} {l0 : List (List Bool)} {l1 : List S53} {a2 : Int} {cur : World} (h : Gm s2 s3 g6 E0 f0 E1 f1 l0 l1 a2 cur) (hS : St W g3 s1 A0 q0 A1 q1 l0 l1 a2 cur) (h12 : s1 ≤ s2) (hs : Shorts l0 l1) :
    Calls Try.prog 14 #[.agg #[.slice E0 l0.length f0, .slice E1 l1.length f1, .int .i64 a2], .int .i64 1] cur (fun e w' => e = .returned (.int .i64 (1 + cnt List.length l0 + cnt cC l1)) ∧ St W g3 s1 A0 q0 A1 q1 l0 l1 a2 w' ∧ Gk W s2 g6 E0 l0.length f0 E1 l1.length f1 (mS 1 l0) (mC (1 + cnt List.length l0) l1) a2 w') := by
  obtain ⟨h1, h2, h3, h4⟩ := h
  have hW : W.heap.size ≤ s2 := by have := hS.2.1; have := hS.2.2.1; omega
  have b3 := Kd.S_bound h3
  have b4 := Kd.S_bound h4
  refine (markImage_m W cur _ _ _ _ l0 l1 a2 hS.1 (Kd.S_lower b3 hW) (Kd.S_lower b4 hW) ?_ ?_ hs.1 hs.2.1 hs.2.2.1 hs.2.2.2).mono ?_
  · rintro k ⟨_, _, _, q, hq, cells, hc⟩ ⟨_, _, _, q', hq', cells', hc'⟩
    rw [hc] at hc'
    injection hc' with hc'
    injection hc' with _ hc' _
    subst hc'
    have e1 : (55 :: (Kd.slice 4 Kd.bool).E) = [55, 4] := rfl
    have e2 : (53 :: k53s.E) = [53, 68, 72, 3] := rfl
    rw [e1] at hq
    rw [e2] at hq'
    simp only [List.mem_cons, List.not_mem_nil, or_false] at hq hq'
    omega
  · rintro k (h | h)
    · exact h.2.2.1
    · exact h.2.2.1
  · rintro e w' ⟨rfl, g0, g1, hb, hk⟩
    refine ⟨rfl, hS.kept hb hk ?_, (hk.2 g6 (blk_lt h1) ?_).trans h1, Kd.R_mono (Kd.S_R g0) (fun _ _ => trivial), Kd.R_mono (Kd.S_R g1) (fun _ _ => trivial)⟩
    · rintro k (h | h)
      · have := h.2.1; omega
      · have := h.2.1; omega
    · rintro (h | h)
      · have := h.1; omega
      · have := h.1; omega

theorem kept3 (w : World) (g : Nat) (u0 u1 u2 : Value) : Kept w (((w.setCell ⟨g, 0, none⟩ u0).setCell ⟨g, 1, none⟩ u1).setCell ⟨g, 2, none⟩ u2) (fun k => k = g) :=
  ⟨by simp [World.setCell], fun k _ hn => (Below.heap_setCell _ ⟨g, 2, none⟩ u2 k hn).trans ((Below.heap_setCell _ ⟨g, 1, none⟩ u1 k hn).trans (Below.heap_setCell w ⟨g, 0, none⟩ u0 k hn))⟩
/-- The program's image, just read and laid into a variable. -/
theorem Gm.made {w5 w6 w7 : World} {g6 : Nat} {E0 E1 : Option Addr} {f0 f1 : Nat} {l0 : List (List Bool)} {l1 : List S53} {a2 : Int} {c0 c1 c2 : Value} (h0 : Kd.S (Kd.slice 4 Kd.bool) 55 w6 w5.heap.size (fun _ => True) (.slice E0 l0.length f0) l0) (h1 : Kd.S k53s 53 w6 w5.heap.size (fun _ => True) (.slice E1 l1.length f1) l1) (hb : Below w6.heap.size w6 w7) (hx : w7.heap[g6]? = some (.cells #[c0, c1, c2] 30 (0, 0))) (hg : g6 = w6.heap.size) :
    Gm w5.heap.size w6.heap.size g6 E0 f0 E1 f1 l0 l1 a2 (((w7.setCell ⟨g6, 0, none⟩ (.slice E0 l0.length f0)).setCell ⟨g6, 1, none⟩ (.slice E1 l1.length f1)).setCell ⟨g6, 2, none⟩ (.int .i64 a2)) := by
  refine ⟨by simpa using blk_set (blk_set (blk_set hx 0 (.slice E0 l0.length f0)) 1 (.slice E1 l1.length f1)) 2 (.int .i64 a2), Nat.le_of_eq hg.symm, ?_, ?_⟩
  · exact three_S (Kd.S_below (Kd.S_mono (Kd.S_bound h0) (fun k hk => hk.2.2.1)) hb) hx (by decide) _ _ _
  · exact three_S (Kd.S_below (Kd.S_mono (Kd.S_bound h1) (fun k hk => hk.2.2.1)) hb) hx (by decide) _ _ _
/-- The row of bytes that is handed to the program. -/
def Xb (W : World) (s1 s2 : Nat) (V : Option Addr) (m : Nat) (bs : List Int) (cur : World) : Prop := Kd.R (Kd.int .u8) 5 cur W.heap.size (Own (.slice V bs.length m)) (.slice V bs.length m) bs ∧ ∀ k, Own (.slice V bs.length m) k → s1 ≤ k ∧ k < s2
theorem Xb.below {W : World} {s1 s2 : Nat} {V : Option Addr} {m : Nat} {bs : List Int} {cur cur' : World} (h : Xb W s1 s2 V m bs cur) (hb : Below cur.heap.size cur cur') : Xb W s1 s2 V m bs cur' := ⟨Kd.R_below h.1 hb, h.2⟩
theorem Xb.kept {W : World} {s1 s2 : Nat} {V : Option Addr} {m : Nat} {bs : List Int} {cur cur' : World} {P : Nat → Prop} (h : Xb W s1 s2 V m bs cur) (hk : Kept cur cur' P) (hP : ∀ k, P k → s2 ≤ k) : Xb W s1 s2 V m bs cur' :=
  ⟨Kd.R_step h.1 (fun k hk' hlt => hk.2 k hlt (fun hp => by have := hP k hp; have := (h.2 k hk').2; omega)), h.2⟩
theorem St.cells {W : World} {g3 s1 : Nat} {A0 A1 : Option Addr} {q0 q1 : Nat} {l0 : List (List Bool)} {l1 : List S53} {a2 : Int} {cur : World} (h : St W g3 s1 A0 q0 A1 q1 l0 l1 a2 cur) : cur.cell? ⟨g3, 0, none⟩ = some (.slice A0 l0.length q0) ∧ cur.cell? ⟨g3, 1, none⟩ = some (.slice A1 l1.length q1) ∧ cur.cell? ⟨g3, 2, none⟩ = some (.int .i64 a2) :=
  ⟨(blk_cell h.2.2.2.2.1 0).trans rfl, (blk_cell h.2.2.2.2.1 1).trans rfl, (blk_cell h.2.2.2.2.1 2).trans rfl⟩
theorem cells3 {cur : World} {g : Nat} {a b c : Value} (h : cur.heap[g]? = some (.cells #[a, b, c] 30 (0, 0))) : cur.cell? ⟨g, 0, none⟩ = some a ∧ cur.cell? ⟨g, 1, none⟩ = some b ∧ cur.cell? ⟨g, 2, none⟩ = some c :=
  ⟨(blk_cell h 0).trans rfl, (blk_cell h 1).trans rfl, (blk_cell h 2).trans rfl⟩
/-- Both images are compared. -/
theorem Gm.eq {W : World} {s1 s2 s3 g3 g6 : Nat} {A0 A1 E0 E1 : Option Addr} {q0 q1 f0 f1 : Nat} {l0 : List (List Bool)} {l1 : List S53} {a2 : Int} {cur : World} (h : Gm s2 s3 g6 E0 f0 E1 f1 l0 l1 a2 cur) (hS : St W g3 s1 A0 q0 A1 q1 l0 l1 a2 cur) (hs : Shorts l0 l1) :
    Calls Try.prog 10 #[.agg #[.slice E0 l0.length f0, .slice E1 l1.length f1, .int .i64 a2], .agg #[.slice A0 l0.length q0, .slice A1 l1.length q1, .int .i64 a2]] cur (fun e w' => e = .returned (.bool true) ∧ Below cur.heap.size cur w') :=
  eqI_c E0 f0 E1 f1 A0 q0 A1 q1 l0 l1 a2 cur hs ⟨(Kd.S_reads' h.2.2.1).2.2, (Kd.S_reads' h.2.2.1).2.1⟩ ⟨k53s_C (Kd.S_reads' h.2.2.2).2.2, (Kd.S_reads' h.2.2.2).2.1⟩ ⟨(Kd.R_reads' hS.2.2.2.2.2.1).2.2, (Kd.R_reads' hS.2.2.2.2.2.1).2.1⟩ ⟨(Kd.R_reads' hS.2.2.2.2.2.2).2.2, (Kd.R_reads' hS.2.2.2.2.2.2).2.1⟩
theorem Gk.held {W : World} {s2 g6 : Nat} {E0 E1 : Option Addr} {n0 f0 n1 f1 : Nat} {l0 : List (List Bool)} {l1 : List S53} {a2 : Int} {cur : World} (h : Gk W s2 g6 E0 n0 f0 E1 n1 f1 (mS 1 l0) (mC (1 + cnt List.length l0) l1) a2 cur) (hs : Shorts l0 l1) :
    Calls Try.prog 20 #[.agg #[.slice E0 n0 f0, .slice E1 n1 f1, .int .i64 a2], .int .i64 1] cur (fun e w' => e = .returned (.int .i64 (1 + cnt List.length l0 + cnt cC l1)) ∧ Below cur.heap.size cur w') := by
  obtain ⟨a, b, c⟩ := Kd.R_reads' h.2.1
  obtain ⟨a', b', c'⟩ := Kd.R_reads' h.2.2
  exact heldI_c E0 f0 n0 E1 f1 n1 l0 l1 a2 cur hs ⟨by rw [a]; exact c, by omega, a⟩ ⟨by rw [a']; exact k53s_C c', by omega, a'⟩

theorem Gk.set3 {W : World} {s2 g6 gz : Nat} {E0 E1 : Option Addr} {n0 f0 n1 f1 : Nat} {m0 : List (List Bool)} {m1 : List S53} {a2 : Int} {cur : World} {c0 c1 c2 : Value} (h : Gk W s2 g6 E0 n0 f0 E1 n1 f1 m0 m1 a2 cur) (hx : cur.heap[gz]? = some (.cells #[c0, c1, c2] 30 (0, 0))) (hn : g6 ≠ gz) (u0 u1 u2 : Value) : Gk W s2 g6 E0 n0 f0 E1 n1 f1 m0 m1 a2 (((cur.setCell ⟨gz, 0, none⟩ u0).setCell ⟨gz, 1, none⟩ u1).setCell ⟨gz, 2, none⟩ u2) := by
  obtain ⟨h1, h2, h3⟩ := h
  have b1 := blk_set hx 0 u0
  have b2 := blk_set b1 1 u1
  exact ⟨(Below.heap_setCell _ ⟨gz, 2, none⟩ u2 g6 hn).trans ((Below.heap_setCell _ ⟨gz, 1, none⟩ u1 g6 hn).trans ((Below.heap_setCell cur ⟨gz, 0, none⟩ u0 g6 hn).trans h1)), Kd.R_set (Kd.R_set (Kd.R_set h2 hx (by decide) 0 u0) b1 (by decide) 1 u1) b2 (by decide) 2 u2, Kd.R_set (Kd.R_set (Kd.R_set h3 hx (by decide) 0 u0) b1 (by decide) 1 u1) b2 (by decide) 2 u2⟩

end Go.Proofs.Ytkfeoilnhpfknaa.ImFnExactImageRead
