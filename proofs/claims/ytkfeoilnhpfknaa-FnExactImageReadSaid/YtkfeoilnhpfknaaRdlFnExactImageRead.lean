/- Plain law: both readers of images agree. -/
import Derived.Test.YtkfeoilnhpfknaaRdkFnExactImageRead
import Derived.Test.YtkfeoilnhpfknaaImgRFnExactImageRead
namespace Go.Proofs.Ytkfeoilnhpfknaa.ImFnExactImageRead
set_option linter.unusedVariables false
open Go.RowKit Go.Proofs.Ytkfeoilnhpfknaa.QFnExactImageRead Go.Proofs.YtkfeoilnhpfknaaW.PrintWords Go.Proofs.YtkfeoilnhpfknaaW.PrintLast

theorem map_flat (l : List Bool) : l.map boolI = l.flatMap fun b => [boolI b] := by
  induction l with
  | nil => rfl
  | cons x l ih => rw [List.map_cons, List.flatMap_cons, ih]; rfl
theorem put_flat (l : List Int) : putB l = l.flatMap fun n => lowB n 2 := by
  induction l with
  | nil => rfl
  | cons x l ih => rw [List.flatMap_cons, ← ih]; rfl
theorem put1 (n : Int) : putB [n] = lowB n 2 := by show lowB n 2 ++ [] = _; rw [List.append_nil]
theorem put2 (a b : Int) : putB [a, b] = lowB a 2 ++ lowB b 2 := by show lowB a 2 ++ (lowB b 2 ++ []) = _; rw [List.append_nil]
theorem put3 (a b c : Int) : putB [a, b, c] = lowB a 2 ++ (lowB b 2 ++ lowB c 2) := by show lowB a 2 ++ (lowB b 2 ++ (lowB c 2 ++ [])) = _; rw [List.append_nil]
theorem put4 (a b c d : Int) : putB [a, b, c, d] = lowB a 2 ++ (lowB b 2 ++ (lowB c 2 ++ lowB d 2)) := by show lowB a 2 ++ (lowB b 2 ++ (lowB c 2 ++ (lowB d 2 ++ []))) = _; rw [List.append_nil]
theorem byt_put (l : List Int) : Byt (putB l) := by
  induction l with
  | nil => exact byt_nil
  | cons x l ih => exact (byt_low x 2).app ih
def PM (p : S72) : Prop := PN 6000 p.f0 ∧ p.f1.length ≤ 1000 ∧ ∀ n ∈ p.f1, PN 1000 n
def PC (c : S53) : Prop := PN 1000 c.f0 ∧ PN 4 c.f1 ∧ c.f2.length ≤ 6000 ∧ c.f3.length ≤ 6000 ∧ (∀ x ∈ c.f2, PI x) ∧ ∀ p ∈ c.f3, PM p
def PS (l : List Bool) : Prop := l.length ≤ 5
def PImg (l0 : List (List Bool)) (l1 : List S53) (a2 : Int) : Prop := l0.length ≤ 6 ∧ l1.length ≤ 8 ∧ PN 8 a2 ∧ (∀ l ∈ l0, PS l) ∧ ∀ c ∈ l1, PC c
def tailB (l0 : List (List Bool)) (l1 : List S53) (a2 : Int) : List Int := putB [(l0.length : Int), (l1.length : Int), a2] ++ (l0.flatMap structB ++ l1.flatMap codeB)
theorem img_tail (l0 : List (List Bool)) (l1 : List S53) (a2 : Int) : imgB l0 l1 a2 = 71 :: 73 :: tailB l0 l1 a2 := by
  unfold imgB headB tailB
  rw [List.append_assoc, List.append_assoc]
  rfl
theorem pn_nat {m n : Nat} (h : n ≤ m) : PN m (n : Int) := ⟨by omega, by omega⟩
theorem len_of {m n : Int} {k : Nat} (h : PN m n) (e : k = n.toNat) : (k : Int) = n := by have := h.1; omega

/-! ### The specification's reading -/
theorem struct_sound : Sound svStruct srStruct structB PS := by
  intro s hb hs
  have h1 := num_sound 5
  have hm := many_sound bool_sound (svNum 5 s).toNat (srNum 5 s)
  have hr : (srNum 5 s).2 = false := by
    by_cases d : (srNum 5 s).2 = true
    · have hs' : (rMany srB (svNum 5 s).toNat (srNum 5 s)).2 = false := hs
      rw [rMany_bad _ _ d, d] at hs'; cases hs'
    · simpa using d
  obtain ⟨k1, k2, k3⟩ := h1 s hb hr
  obtain ⟨m1, m2, m3, _⟩ := hm (h1.byt hb hr) hs
  have hl := len_of k3 (show (svStruct s).length = (svNum 5 s).toNat from m3)
  refine ⟨k1, ?_, ?_⟩
  · unfold structB
    rw [put1, hl, map_flat, List.append_assoc]
    exact k2.trans (congrArg _ m2)
  · unfold PS
    have := k3.2
    omega
theorem map_sound : Sound svMap srMap mapB PM := by
  intro s hb hs
  have h1 := num_sound 6000
  have h2 := num_sound 1000
  have hm := many_sound h2 (svNum 1000 (srNum 6000 s)).toNat (srNum 1000 (srNum 6000 s))
  have hr2 : (srNum 1000 (srNum 6000 s)).2 = false := by
    by_cases d : (srNum 1000 (srNum 6000 s)).2 = true
    · have hs' : (rMany (srNum 1000) (svNum 1000 (srNum 6000 s)).toNat (srNum 1000 (srNum 6000 s))).2 = false := hs
      rw [rMany_bad _ _ d, d] at hs'; cases hs'
    · simpa using d
  have hr1 : (srNum 6000 s).2 = false := by
    by_cases d : (srNum 6000 s).2 = true
    · have : (srNum 1000 (srNum 6000 s)).2 = true := by
        show (if (srNum 6000 s).2 = true ∨ _ ∨ _ then (([], true) : RSt) else _).2 = true
        rw [if_pos (.inl d)]
      rw [this] at hr2; cases hr2
    · simpa using d
  obtain ⟨k1, k2, k3⟩ := h1 s hb hr1
  have hb1 := h1.byt hb hr1
  obtain ⟨l1, l2, l3⟩ := h2 _ hb1 hr2
  obtain ⟨m1, m2, m3, m4⟩ := hm (h2.byt hb1 hr2) hs
  have hl := len_of l3 (show (svMap s).f1.length = (svNum 1000 (srNum 6000 s)).toNat from m3)
  refine ⟨k1, ?_, k3, ?_, m4⟩
  · unfold mapB
    rw [put2, hl, put_flat (svMap s).f1, List.append_assoc, List.append_assoc]
    exact k2.trans (congrArg _ (l2.trans (congrArg _ m2)))
  · have := l3.2
    omega
theorem srNum_bad {most : Int} {s : RSt} (d : s.2 = true) : (srNum most s).2 = true := by
  unfold srNum
  rw [if_pos (.inl d)]
theorem srNum_of {most : Int} {s : RSt} (h : (srNum most s).2 = false) : s.2 = false := by
  by_cases d : s.2 = true
  · rw [srNum_bad d] at h; cases h
  · simpa using d
theorem rMany_of {r : RSt → RSt} {n : Nat} {s : RSt} (h : (rMany r n s).2 = false) : s.2 = false := by
  by_cases d : s.2 = true
  · rw [rMany_bad _ _ d, d] at h; cases h
  · simpa using d
theorem code_sound : Sound svCode srCode codeB PC := by
  intro s hb hs
  have hi : (cIns s).2 = false := rMany_of hs
  have h4 : (c4 s).2 = false := rMany_of hi
  have h3 : (srNum 6000 (c2 s)).2 = false := srNum_of h4
  have h2 : (c2 s).2 = false := srNum_of h3
  have h1 : (srNum 1000 s).2 = false := srNum_of h2
  obtain ⟨a1, a2, a3⟩ := num_sound 1000 s hb h1
  have b1 := (num_sound 1000).byt hb h1
  obtain ⟨_, a5, a6⟩ := num_sound 4 _ b1 h2
  have b2 := (num_sound 4).byt b1 h2
  obtain ⟨_, a8, a9⟩ := num_sound 6000 _ b2 h3
  have b3 := (num_sound 6000).byt b2 h3
  obtain ⟨_, a11, a12⟩ := num_sound 6000 _ b3 h4
  have b4 := (num_sound 6000).byt b3 h4
  obtain ⟨_, i2, i3, i4⟩ := many_sound ins_sound (svNum 6000 (c2 s)).toNat (c4 s) b4 hi
  have b5 : Byt (cIns s).1 := (many_sound ins_sound (svNum 6000 (c2 s)).toNat).byt b4 hi
  obtain ⟨_, m2, m3, m4⟩ := many_sound map_sound (svNum 6000 (srNum 6000 (c2 s))).toNat (cIns s) b5 hs
  have l2 := len_of a9 (show (svCode s).f2.length = (svNum 6000 (c2 s)).toNat from i3)
  have l3 := len_of a12 (show (svCode s).f3.length = (svNum 6000 (srNum 6000 (c2 s))).toNat from m3)
  refine ⟨a1, ?_, a3, a6, ?_, ?_, i4, m4⟩
  · unfold codeB
    rw [put4, l2, l3]
    simp only [List.append_assoc]
    exact a2.trans (congrArg _ (a5.trans (congrArg _ (a8.trans (congrArg _ (a11.trans (congrArg _ (i2.trans (congrArg _ m2)))))))))
  · have := a9.2; omega
  · have := a12.2; omega
theorem img_sound (s : RSt) (hb : Byt s.1) (hs : (tC s).2 = false) : s.1 = tailB (tStructs s) (tCodes s) (tMain s) ++ (tC s).1 ∧ PImg (tStructs s) (tCodes s) (tMain s) := by
  have hi : (tS s).2 = false := rMany_of hs
  have h3 : (t3 s).2 = false := rMany_of hi
  have h2 : (srNum 8 (srNum 6 s)).2 = false := srNum_of h3
  have h1 : (srNum 6 s).2 = false := srNum_of h2
  obtain ⟨_, a2, a3⟩ := num_sound 6 s hb h1
  have b1 := (num_sound 6).byt hb h1
  obtain ⟨_, a5, a6⟩ := num_sound 8 _ b1 h2
  have b2 := (num_sound 8).byt b1 h2
  obtain ⟨_, a8, a9⟩ := num_sound 8 _ b2 h3
  have b3 := (num_sound 8).byt b2 h3
  obtain ⟨_, i2, i3, i4⟩ := many_sound struct_sound (svNum 6 s).toNat (t3 s) b3 hi
  have b5 : Byt (tS s).1 := (many_sound struct_sound (svNum 6 s).toNat).byt b3 hi
  obtain ⟨_, m2, m3, m4⟩ := many_sound code_sound (svNum 8 (srNum 6 s)).toNat (tS s) b5 hs
  have l2 := len_of a3 (show (tStructs s).length = (svNum 6 s).toNat from i3)
  have l3 := len_of a6 (show (tCodes s).length = (svNum 8 (srNum 6 s)).toNat from m3)
  refine ⟨?_, ?_, ?_, a9, i4, m4⟩
  · unfold tailB
    rw [put3, l2, l3]
    simp only [List.append_assoc]
    exact a2.trans (congrArg _ (a5.trans (congrArg _ (a8.trans (congrArg _ (i2.trans (congrArg _ m2)))))))
  · have := a3.2; omega
  · have := a6.2; omega
theorem struct_full : Full svStruct srStruct structB PS := by
  intro l rest hb hP
  obtain ⟨m1, m2, m3⟩ := many_full bool_full l.length l rest hb ⟨rfl, fun _ _ => trivial⟩
  simp only [← map_flat] at m1 m2 m3
  obtain ⟨k1, k2, k3⟩ := num_full 5 (by decide) (l.length : Int) (l.map boolI ++ rest) (m3.app hb) (pn_nat hP)
  have e : structB l ++ rest = lowB (l.length : Int) 2 ++ (l.map boolI ++ rest) := by unfold structB; rw [put1, List.append_assoc]
  refine ⟨?_, ?_, ?_⟩
  · unfold svStruct
    rw [e, k1, k2]
    exact m1
  · unfold srStruct
    rw [e, k1, k2]
    exact m2
  · unfold structB
    exact (byt_put _).app m3
theorem map_full : Full svMap srMap mapB PM := by
  intro p rest hb hP
  obtain ⟨m1, m2, m3⟩ := many_full (num_full 1000 (by decide)) p.f1.length p.f1 rest hb ⟨rfl, hP.2.2⟩
  simp only [← put_flat] at m1 m2 m3
  obtain ⟨l1, l2, l3⟩ := num_full 1000 (by decide) (p.f1.length : Int) (putB p.f1 ++ rest) (m3.app hb) (pn_nat hP.2.1)
  obtain ⟨k1, k2, k3⟩ := num_full 6000 (by decide) p.f0 (lowB (p.f1.length : Int) 2 ++ (putB p.f1 ++ rest)) (l3.app (m3.app hb)) hP.1
  have e : mapB p ++ rest = lowB p.f0 2 ++ (lowB (p.f1.length : Int) 2 ++ (putB p.f1 ++ rest)) := by unfold mapB; rw [put2]; simp only [List.append_assoc]
  refine ⟨?_, ?_, ?_⟩
  · unfold svMap
    rw [e, k1, k2, l1, l2, Int.toNat_natCast, m1]
  · unfold srMap
    rw [e, k2, l1, l2, Int.toNat_natCast, m2]
  · exact (byt_put _).app (byt_put _)
theorem code_full : Full svCode srCode codeB PC := by
  intro c rest hb hP
  obtain ⟨p0, p1, p2, p3, p4, p5⟩ := hP
  obtain ⟨m1, m2, m3⟩ := many_full map_full c.f3.length c.f3 rest hb ⟨rfl, p5⟩
  obtain ⟨i1, i2, i3⟩ := many_full ins_full c.f2.length c.f2 (c.f3.flatMap mapB ++ rest) (m3.app hb) ⟨rfl, p4⟩
  have b4 := i3.app (m3.app hb)
  obtain ⟨d1, d2, d3⟩ := num_full 6000 (by decide) (c.f3.length : Int) _ b4 (pn_nat p3)
  obtain ⟨e1, e2, e3⟩ := num_full 6000 (by decide) (c.f2.length : Int) _ (d3.app b4) (pn_nat p2)
  obtain ⟨f1, f2, f3⟩ := num_full 4 (by decide) c.f1 _ (e3.app (d3.app b4)) p1
  obtain ⟨g1, g2, g3⟩ := num_full 1000 (by decide) c.f0 _ (f3.app (e3.app (d3.app b4))) p0
  have e : codeB c ++ rest = lowB c.f0 2 ++ (lowB c.f1 2 ++ (lowB (c.f2.length : Int) 2 ++ (lowB (c.f3.length : Int) 2 ++ (c.f2.flatMap insB ++ (c.f3.flatMap mapB ++ rest))))) := by unfold codeB; rw [put4]; simp only [List.append_assoc]
  have q2 : c2 (codeB c ++ rest, false) = (lowB (c.f2.length : Int) 2 ++ (lowB (c.f3.length : Int) 2 ++ (c.f2.flatMap insB ++ (c.f3.flatMap mapB ++ rest))), false) := by unfold c2; rw [e, g2, f2]
  have q4 : c4 (codeB c ++ rest, false) = (c.f2.flatMap insB ++ (c.f3.flatMap mapB ++ rest), false) := by unfold c4; rw [q2, e2, d2]
  have q5 : cIns (codeB c ++ rest, false) = (c.f3.flatMap mapB ++ rest, false) := by unfold cIns; rw [q4, q2, e1, Int.toNat_natCast, i2]
  refine ⟨?_, ?_, ?_⟩
  · unfold svCode
    rw [q5, q4, q2, e1, e2, d1, Int.toNat_natCast, Int.toNat_natCast, i1, m1, e, g1, g2, f1]
  · unfold srCode
    rw [q5, q2, e2, d1, Int.toNat_natCast, m2]
  · exact ((byt_put _).app i3).app m3
theorem img_full (l0 : List (List Bool)) (l1 : List S53) (a2 : Int) (h : PImg l0 l1 a2) : tStructs (tailB l0 l1 a2, false) = l0 ∧ tCodes (tailB l0 l1 a2, false) = l1 ∧ tMain (tailB l0 l1 a2, false) = a2 ∧ tC (tailB l0 l1 a2, false) = ([], false) := by
  obtain ⟨p0, p1, p2, p3, p4⟩ := h
  obtain ⟨m1, m2, m3⟩ := many_full code_full l1.length l1 [] byt_nil ⟨rfl, p4⟩
  obtain ⟨i1, i2, i3⟩ := many_full struct_full l0.length l0 (l1.flatMap codeB ++ []) (m3.app byt_nil) ⟨rfl, p3⟩
  have b4 := i3.app (m3.app byt_nil)
  obtain ⟨d1, d2, d3⟩ := num_full 8 (by decide) a2 _ b4 p2
  obtain ⟨e1, e2, e3⟩ := num_full 8 (by decide) (l1.length : Int) _ (d3.app b4) (pn_nat p1)
  obtain ⟨f1, f2, f3⟩ := num_full 6 (by decide) (l0.length : Int) _ (e3.app (d3.app b4)) (pn_nat p0)
  have e : tailB l0 l1 a2 = lowB (l0.length : Int) 2 ++ (lowB (l1.length : Int) 2 ++ (lowB a2 2 ++ (l0.flatMap structB ++ (l1.flatMap codeB ++ [])))) := by unfold tailB; rw [put3]; simp only [List.append_assoc, List.append_nil]
  have q3 : t3 (tailB l0 l1 a2, false) = (l0.flatMap structB ++ (l1.flatMap codeB ++ []), false) := by unfold t3; rw [e, f2, e2, d2]
  have q4 : tS (tailB l0 l1 a2, false) = (l1.flatMap codeB ++ [], false) := by unfold tS; rw [q3, e, f1, Int.toNat_natCast, i2]
  refine ⟨?_, ?_, ?_, ?_⟩
  · unfold tStructs
    rw [q3, e, f1, Int.toNat_natCast, i1]
  · unfold tCodes
    rw [q4, e, f2, e1, Int.toNat_natCast, m1]
  · unfold tMain
    rw [e, f2, e2, d1]
  · unfold tC
    rw [q4, e, f2, e1, Int.toNat_natCast, m2]

/-! ### The program's reading -/
theorem ints_full (n : Nat) : Full (vInts n) (rInts n) putB (fun l => l.length = n ∧ ∀ x ∈ l, PN 65535 x) := by
  intro l rest hb hP
  obtain ⟨m1, m2, m3⟩ := many_full numI_full n l rest hb hP
  simp only [← put_flat] at m1 m2 m3
  refine ⟨?_, ?_, m3⟩
  · show intsV n _ _ = _
    rw [intsV_many]
    exact m1
  · rw [intsR_many]
    exact m2
theorem PN.wide {m n : Int} (h : PN m n) (hm : m ≤ 65535) : PN 65535 n := ⟨h.1, Int.le_trans h.2 hm⟩
theorem structI_full : Full vStruct rStruct structB PS := by
  intro l rest hb hP
  obtain ⟨m1, m2, m3⟩ := many_full boolI_full l.length l rest hb ⟨rfl, fun _ _ => trivial⟩
  simp only [← map_flat] at m1 m2 m3
  obtain ⟨k1, k2, k3⟩ := numI_full (l.length : Int) (l.map boolI ++ rest) (m3.app hb) ((pn_nat hP).wide (by decide))
  have e : structB l ++ rest = lowB (l.length : Int) 2 ++ (l.map boolI ++ rest) := by unfold structB; rw [put1, List.append_assoc]
  refine ⟨?_, ?_, ?_⟩
  · unfold vStruct
    rw [e]
    simp only at k1
    rw [k1, k2]
    exact m1
  · unfold rStruct
    rw [e]
    simp only at k1
    rw [k1, k2]
    exact m2
  · unfold structB
    exact (byt_put _).app m3
theorem mapI_full : Full vMap rMap mapB PM := by
  intro p rest hb hP
  obtain ⟨m1, m2, m3⟩ := ints_full p.f1.length p.f1 rest hb ⟨rfl, fun x hx => (hP.2.2 x hx).wide (by decide)⟩
  obtain ⟨k1, k2, k3⟩ := ints_full 2 [p.f0, (p.f1.length : Int)] (putB p.f1 ++ rest) (m3.app hb) ⟨rfl, fun x hx => by
    rcases List.mem_cons.1 hx with rfl | hx
    · exact hP.1.wide (by decide)
    · rw [List.mem_singleton.1 hx]; exact (pn_nat hP.2.1).wide (by decide)⟩
  have e : mapB p ++ rest = putB [p.f0, (p.f1.length : Int)] ++ (putB p.f1 ++ rest) := by unfold mapB; rw [List.append_assoc]
  have hh : hMap (mapB p ++ rest, false) = [p.f0, (p.f1.length : Int), 0, 0] := by unfold hMap; rw [e, k1]; rfl
  refine ⟨?_, ?_, (byt_put _).app (byt_put _)⟩
  · unfold vMap
    rw [hh, e, k2]
    show (⟨p.f0, vInts p.f1.length _⟩ : S72) = p
    rw [m1]
  · unfold rMap
    rw [hh, e, k2]
    exact m2
theorem codeI_full : Full vCode rCode codeB PC := by
  intro c rest hb hP
  obtain ⟨p0, p1, p2, p3, p4, p5⟩ := hP
  obtain ⟨m1, m2, m3⟩ := many_full mapI_full c.f3.length c.f3 rest hb ⟨rfl, p5⟩
  obtain ⟨i1, i2, i3⟩ := many_full insI_full c.f2.length c.f2 (c.f3.flatMap mapB ++ rest) (m3.app hb) ⟨rfl, p4⟩
  have b4 := i3.app (m3.app hb)
  obtain ⟨k1, k2, k3⟩ := ints_full 4 [c.f0, c.f1, (c.f2.length : Int), (c.f3.length : Int)] _ b4 ⟨rfl, fun x hx => by
    simp only [List.mem_cons, List.not_mem_nil, or_false] at hx
    rcases hx with rfl | rfl | rfl | rfl
    · exact p0.wide (by decide)
    · exact p1.wide (by decide)
    · exact (pn_nat p2).wide (by decide)
    · exact (pn_nat p3).wide (by decide)⟩
  have e : codeB c ++ rest = putB [c.f0, c.f1, (c.f2.length : Int), (c.f3.length : Int)] ++ (c.f2.flatMap insB ++ (c.f3.flatMap mapB ++ rest)) := by unfold codeB; simp only [List.append_assoc]
  have hh : hCode (codeB c ++ rest, false) = [c.f0, c.f1, (c.f2.length : Int), (c.f3.length : Int), 0, 0, 0, 0] := by unfold hCode; rw [e, k1]; rfl
  have hs : sIns (codeB c ++ rest, false) = (c.f3.flatMap mapB ++ rest, false) := by
    unfold sIns
    rw [hh, e, k2]
    exact i2
  refine ⟨?_, ?_, ((byt_put _).app i3).app m3⟩
  · unfold vCode
    rw [hs, hh, e, k2]
    show (⟨c.f0, c.f1, vMany vIns rIns c.f2.length _, vMany vMap rMap c.f3.length _⟩ : S53) = c
    rw [i1, m1]
  · unfold rCode
    rw [hs, hh]
    exact m2
theorem imgI_full (l0 : List (List Bool)) (l1 : List S53) (a2 : Int) (h : PImg l0 l1 a2) : vStructs (tailB l0 l1 a2, false) = l0 ∧ vCodes (tailB l0 l1 a2, false) = l1 ∧ vMain (tailB l0 l1 a2, false) = a2 ∧ sCodes (tailB l0 l1 a2, false) = ([], false) := by
  obtain ⟨p0, p1, p2, p3, p4⟩ := h
  obtain ⟨m1, m2, m3⟩ := many_full codeI_full l1.length l1 [] byt_nil ⟨rfl, p4⟩
  obtain ⟨i1, i2, i3⟩ := many_full structI_full l0.length l0 (l1.flatMap codeB ++ []) (m3.app byt_nil) ⟨rfl, p3⟩
  have b4 := i3.app (m3.app byt_nil)
  obtain ⟨k1, k2, k3⟩ := ints_full 3 [(l0.length : Int), (l1.length : Int), a2] _ b4 ⟨rfl, fun x hx => by
    simp only [List.mem_cons, List.not_mem_nil, or_false] at hx
    rcases hx with rfl | rfl | rfl
    · exact (pn_nat p0).wide (by decide)
    · exact (pn_nat p1).wide (by decide)
    · exact p2.wide (by decide)⟩
  have e : tailB l0 l1 a2 = putB [(l0.length : Int), (l1.length : Int), a2] ++ (l0.flatMap structB ++ (l1.flatMap codeB ++ [])) := by unfold tailB; simp only [List.append_nil]
  have hh : hImg (tailB l0 l1 a2, false) = [(l0.length : Int), (l1.length : Int), a2, 0, 0, 0] := by unfold hImg; rw [e, k1]; rfl
  have hs : sStructs (tailB l0 l1 a2, false) = (l1.flatMap codeB ++ [], false) := by
    unfold sStructs
    rw [hh, e, k2]
    exact i2
  refine ⟨?_, ?_, ?_, ?_⟩
  · unfold vStructs
    rw [hh, e, k2]
    exact i1
  · unfold vCodes
    rw [hs, hh]
    exact m1
  · unfold vMain
    rw [hh]
    rfl
  · unfold sCodes
    rw [hs, hh]
    exact m2

/-! ### Both agree -/
theorem many_all {α : Type} {v : RSt → α} {r : RSt → RSt} {P : α → Prop} (h : ∀ s, P (v s)) (n : Nat) : ∀ s, ∀ x ∈ vMany v r n s, P x := by
  induction n with
  | zero => intro s x hx; cases hx
  | succ n ih =>
    intro s x hx
    rw [vMany] at hx
    split at hx
    · cases hx
    · rcases List.mem_cons.1 hx with rfl | hx
      · exact h s
      · exact ih _ x hx
theorem same_eq {a b : List Int} (h : sameB a b = true) (ha : Byt a) (hb : Byt b) : a = b := by
  unfold sameB at h
  rw [Lib.strOfNums_toList, Lib.strOfNums_toList, beq_iff_eq] at h
  unfold Lib.bytesOf at h
  refine List.ext_getElem ?_ fun i h1 h2 => ?_
  · have := congrArg List.length h
    simpa using this
  · have e := congrArg (fun l => l[i]?) h
    simp only [List.getElem?_map, List.getElem?_eq_getElem h1, List.getElem?_eq_getElem h2, Option.map_some, Option.some.injEq] at e
    have ka := ha _ (List.getElem_mem h1)
    have kb := hb _ (List.getElem_mem h2)
    have e2 := congrArg UInt8.toNat e
    simp only [UInt8.toNat_ofNat'] at e2
    omega
def SGoes (bs : List Int) : Prop := ¬ 200000 < bs.length ∧ 2 ≤ bs.length ∧ rd bs 0 = 71 ∧ rd bs 1 = 73 ∧ (tC (st0 bs)).2 = false ∧ (tC (st0 bs)).1 = [] ∧ ImgOk (tStructs (st0 bs)) (tCodes (st0 bs)) (tMain (st0 bs))
theorem byt_struct (l : List Bool) : Byt (structB l) := by
  unfold structB
  rw [map_flat]
  refine (byt_put _).app ?_
  intro x hx
  obtain ⟨b, _, h⟩ := List.mem_flatMap.1 hx
  exact byt_bool b x h
theorem byt_flat {α : Type} {f : α → List Int} (h : ∀ x, Byt (f x)) (l : List α) : Byt (l.flatMap f) := fun x hx => by
  obtain ⟨y, _, hy⟩ := List.mem_flatMap.1 hx
  exact h y x hy
theorem byt_img (l0 : List (List Bool)) (l1 : List S53) (a2 : Int) : Byt (imgB l0 l1 a2) := by
  unfold imgB headB
  refine (Byt.app (Byt.app (fun x hx => ?_) (byt_put _)) (byt_flat byt_struct _)).app (byt_flat (fun c => ?_) _)
  · simp only [List.mem_cons, List.not_mem_nil, or_false] at hx
    rcases hx with rfl | rfl <;> exact ⟨by decide, by decide⟩
  · exact ((byt_put _).app (byt_flat byt_ins _)).app (byt_flat (fun p => (byt_put _).app (byt_put _)) _)
/-- What may be an image is within the reader's bounds. -/
theorem pimg_of {l0 : List (List Bool)} {l1 : List S53} {a2 : Int} (h : ImgOk l0 l1 a2) (hi : ∀ c ∈ l1, ∀ x ∈ c.f2, -9223372036854775808 ≤ x.f4 ∧ x.f4 ≤ 9223372036854775807) : PImg l0 l1 a2 := by
  obtain ⟨⟨h0, h1, h2, _⟩, h3, h4, _⟩ := h
  have hb := (Go.Proofs.Ytkfeoilnhpfknaa.ImgTFnExactImageRead.inB_iff _ _ _).1 h2
  refine ⟨by omega, by omega, ⟨hb.1, by omega⟩, fun s hs => ?_, fun c hc => ?_⟩
  · have := List.any_eq_false.1 h3 s hs
    unfold PS
    simpa using this
  · obtain ⟨j, hj, rfl⟩ := List.getElem_of_mem hc
    have hk := h4 j hj
    rw [Go.Proofs.Ytkfeoilnhpfknaa.ImgRFnExactImageRead.rd53 l1 j hj] at hk
    obtain ⟨⟨k0, k1, k2⟩, k3, k4⟩ := hk
    have b0 := (Go.Proofs.Ytkfeoilnhpfknaa.ImgTFnExactImageRead.inB_iff _ _ _).1 k0
    have b1 := (Go.Proofs.Ytkfeoilnhpfknaa.ImgTFnExactImageRead.inB_iff _ _ _).1 k1
    have b2 := (Go.Proofs.Ytkfeoilnhpfknaa.ImgTFnExactImageRead.inB_iff _ _ _).1 k2
    have w3 : wrap64 (3 + (l1[j]).f1) = 3 + (l1[j]).f1 := by unfold wrap64; omega
    rw [w3] at b1
    have hm : (l1[j]).f3.length ≤ (l1[j]).f2.length := by
      have := k4.1
      have := safeTo_len (l1[j]).f2 (l1[j]).f2.length
      omega
    refine ⟨⟨by omega, by omega⟩, ⟨by omega, by omega⟩, by omega, by omega, fun x hx => ?_, fun m hmm => ?_⟩
    · have hr := hi _ hc x hx
      obtain ⟨i, hi', rfl⟩ := List.getElem_of_mem hx
      have ki := k3 i hi'
      rw [Go.Proofs.Ytkfeoilnhpfknaa.ImgRFnExactImageRead.rd68 _ i hi'] at ki
      obtain ⟨q0, q1, q2, q3, _⟩ := ki
      have z0 := (Go.Proofs.Ytkfeoilnhpfknaa.ImgTFnExactImageRead.inB_iff _ _ _).1 q0
      have z1 := (Go.Proofs.Ytkfeoilnhpfknaa.ImgTFnExactImageRead.inB_iff _ _ _).1 q1
      have z2 := (Go.Proofs.Ytkfeoilnhpfknaa.ImgTFnExactImageRead.inB_iff _ _ _).1 q2
      have z3 := (Go.Proofs.Ytkfeoilnhpfknaa.ImgTFnExactImageRead.inB_iff _ _ _).1 q3
      exact ⟨⟨by omega, by omega⟩, ⟨by omega, by omega⟩, ⟨by omega, by omega⟩, ⟨by omega, by omega⟩, hr.1, hr.2⟩
    · obtain ⟨i, hi', rfl⟩ := List.getElem_of_mem hmm
      have km := k4.2 i hi'
      rw [Go.Proofs.Ytkfeoilnhpfknaa.ImgRFnExactImageRead.rd72 _ i hi'] at km
      have ks := Go.Proofs.Ytkfeoilnhpfknaa.ImgRFnExactImageRead.slots_in (by omega) km.1
      have kp : 0 ≤ ((l1[j]).f3[i]).f0 ∧ ((l1[j]).f3[i]).f0 ≤ 6000 := by
        rw [km.2]
        have hp := Go.Proofs.Ytkfeoilnhpfknaa.ImgRFnExactImageRead.safe_in (l1[j]).f2 (l1[j]).f2.length (rd (safeTo (l1[j]).f2 (l1[j]).f2.length) i) (by
          rw [Aid.rd_eq _ i (by have := k4.1; omega)]; exact List.getElem_mem _)
        omega
      refine ⟨kp, ks.1, fun n hn => ?_⟩
      obtain ⟨k, hk', rfl⟩ := List.getElem_of_mem hn
      have hs := (km.1 k hk').1
      have w4 : wrap64 ((l1[j]).f0 - 1) = (l1[j]).f0 - 1 := by unfold wrap64; omega
      rw [Aid.rd_eq _ k hk', w4] at hs
      have hz := (Go.Proofs.Ytkfeoilnhpfknaa.ImgTFnExactImageRead.inB_iff _ _ _).1 hs
      exact ⟨by omega, by omega⟩
theorem goes_is {bs : List Int} (hb : Byt bs) (h : Goes bs) : SGoes bs ∧ vStructs (st0 bs) = tStructs (st0 bs) ∧ vCodes (st0 bs) = tCodes (st0 bs) ∧ vMain (st0 bs) = tMain (st0 bs) := by
  obtain ⟨h0, h1, h2, h3, h4⟩ := h
  have e := same_eq h4 (byt_img _ _ _) hb
  have hP := pimg_of h3 fun c hc x hx => by
    have h := many_all (v := vCode) (r := rCode) (P := fun c => ∀ x ∈ c.f2, -9223372036854775808 ≤ x.f4 ∧ x.f4 ≤ 9223372036854775807) (fun s => many_all (v := vIns) (r := rIns) (P := fun x => -9223372036854775808 ≤ x.f4 ∧ x.f4 ≤ 9223372036854775807) (fun s => numV_range 8 _) _ _) _ _ c hc
    exact h x hx
  rw [img_tail] at e
  have es : st0 bs = (tailB (vStructs (st0 bs)) (vCodes (st0 bs)) (vMain (st0 bs)), false) := by
    show (bs.drop 2, false) = _
    conv => lhs; rw [← e]
    rfl
  obtain ⟨f1, f2, f3, f4⟩ := img_full _ _ _ hP
  rw [← es] at f1 f2 f3 f4
  refine ⟨⟨h0, ?_, ?_, ?_, by rw [f4], by rw [f4], by rw [f1, f2, f3]; exact h3⟩, f1.symm, f2.symm, f3.symm⟩
  · rw [← e]; simp
  · rw [← e]; rfl
  · rw [← e]; rfl
theorem sgoes_is {bs : List Int} (hb : Byt bs) (h : SGoes bs) : Goes bs := by
  obtain ⟨h0, h1, h2, h3, h4, h5, h6⟩ := h
  have eb : bs = 71 :: 73 :: bs.drop 2 := by
    have e := list2 bs h1
    rw [h2, h3] at e
    exact e
  have hd : Byt (bs.drop 2) := by
    rw [eb] at hb
    exact fun x hx => hb x (List.mem_cons_of_mem _ (List.mem_cons_of_mem _ hx))
  obtain ⟨e, hP⟩ := img_sound (st0 bs) hd h4
  rw [h5, List.append_nil] at e
  have es : st0 bs = (tailB (tStructs (st0 bs)) (tCodes (st0 bs)) (tMain (st0 bs)), false) := by
    show (bs.drop 2, false) = _
    exact Prod.ext e rfl
  obtain ⟨f1, f2, f3, f4⟩ := imgI_full _ _ _ hP
  rw [← es] at f1 f2 f3 f4
  refine ⟨h0, ?_, by rw [f4], by rw [f1, f2, f3]; exact h6, ?_⟩
  · unfold preOk
    rw [eb]
    have e1 : (71 :: 73 :: bs.drop 2).take ([71, 73] : List Int).length = [71, 73] := rfl
    rw [e1]
    have e2 : decide (([71, 73] : List Int).length ≤ (71 :: 73 :: bs.drop 2).length) = true := decide_eq_true (by simp)
    rw [e2, Bool.true_and]
    unfold sameB
    exact beq_self_eq_true _
  · rw [f1, f2, f3, img_tail]
    have e3 : 71 :: 73 :: tailB (tStructs (st0 bs)) (tCodes (st0 bs)) (tMain (st0 bs)) = bs := by
      conv => rhs; rw [eb]
      exact congrArg _ (congrArg _ e.symm)
    rw [e3]
    unfold sameB
    exact beq_self_eq_true _

end Go.Proofs.Ytkfeoilnhpfknaa.ImFnExactImageRead
