/- The specification's readers as functions on lists; the contracts of spec.l11num and spec.l11one. -/
import Derived.Test.YtkfeoilnhpfknaaRdhFnExactImageRead
import Derived.Deep.QuietTactic
import Derived.BigQuiet
import Derived.StillTailTactics
namespace Go.Proofs.Ytkfeoilnhpfknaa.ImFnExactImageRead
open Go.RowKit Go.Proofs.Ytkfeoilnhpfknaa.QFnExactImageRead Go.Proofs.YtkfeoilnhpfknaaW.PrintWords Go.Proofs.YtkfeoilnhpfknaaW.PrintLast
set_option linter.unusedSimpArgs false
set_option linter.unusedVariables false

/-- Bytes. -/
def Byt (bs : List Int) : Prop := ∀ x ∈ bs, 0 ≤ x ∧ x ≤ 255
theorem Byt.rd {bs : List Int} (h : Byt bs) (i : Int) : 0 ≤ rd bs i ∧ rd bs i ≤ 255 := by
  unfold Go.Proofs.YtkfeoilnhpfknaaW.PrintWords.rd
  rw [List.getD_eq_getElem?_getD]
  by_cases c : i.toNat < bs.length
  · rw [List.getElem?_eq_getElem c]
    exact h _ (List.getElem_mem c)
  · rw [List.getElem?_eq_none (by omega)]
    exact ⟨by decide, by decide⟩
/-- What is left is the end of the bytes. -/
def SufR (bs : List Int) (s : RSt) : Prop := s.2 = false → ∃ t, bs = t ++ s.1
def atOf (bs : List Int) (s : RSt) : Int := if s.2 = true then -1 else (bs.length : Int) - s.1.length
theorem SufR.le {bs : List Int} {s : RSt} (h : SufR bs s) (hb : s.2 = false) : s.1.length ≤ bs.length := by
  obtain ⟨t, e⟩ := h hb
  have := congrArg List.length e
  rw [List.length_append] at this
  omega
theorem SufR.rd {bs : List Int} {s : RSt} (h : SufR bs s) (hb : s.2 = false) (i : Nat) : rd bs ((bs.length : Int) - s.1.length + i) = rd s.1 i := by
  obtain ⟨t, e⟩ := h hb
  have hl : bs.length = t.length + s.1.length := by rw [e, List.length_append]
  unfold Go.Proofs.YtkfeoilnhpfknaaW.PrintWords.rd
  have e1 : ((bs.length : Int) - s.1.length + i).toNat = t.length + i := by omega
  rw [e1, Int.toNat_natCast, List.getD_eq_getElem?_getD, List.getD_eq_getElem?_getD, e, List.getElem?_append_right (by omega)]
  congr 2
  omega
theorem SufR.drop {bs : List Int} {s : RSt} (h : SufR bs s) (hb : s.2 = false) (n : Nat) : SufR bs (s.1.drop n, false) := by
  intro _
  obtain ⟨t, e⟩ := h hb
  exact ⟨t ++ s.1.take n, by rw [List.append_assoc, List.take_append_drop]; exact e⟩
theorem SufR.none (bs : List Int) : SufR bs ([], true) := fun h => by cases h
/-- A number of two bytes. -/
def two (l : List Int) : Int := rd l 0 + 256 * rd l 1
def svNum (most : Int) (s : RSt) : Int := if s.2 = true ∨ s.1.length < 2 ∨ most < two s.1 then 0 else two s.1
def srNum (most : Int) (s : RSt) : RSt := if s.2 = true ∨ s.1.length < 2 ∨ most < two s.1 then ([], true) else (s.1.drop 2, false)
theorem srNum_suf {bs : List Int} {s : RSt} (most : Int) (h : SufR bs s) : SufR bs (srNum most s) := by
  unfold srNum
  split
  · exact SufR.none bs
  · rename_i c
    exact h.drop (by simpa using fun e => c (.inl e)) 2
theorem two_range {bs : List Int} (h : Byt bs) : 0 ≤ two bs ∧ two bs ≤ 65535 := by
  have h0 := h.rd 0
  have h1 := h.rd 1
  unfold two
  omega
theorem Byt.suf {bs : List Int} {s : RSt} (h : Byt bs) (hs : SufR bs s) (hb : s.2 = false) : Byt s.1 := by
  obtain ⟨t, e⟩ := hs hb
  exact fun x hx => h x (by rw [e]; exact List.mem_append_right _ hx)
/-- The cursor. -/
def IsC (w0 w : World) (g : Nat) (bs : List Int) (p : Int) : Prop := ∃ A c, w.heap[g]? = some (.cells #[.slice A bs.length c, .int .i64 p] 65 (0, 0)) ∧ w0.heap.size ≤ g ∧ Kd.C (Kd.int .u8) w0 A bs.length bs ∧ bs.length ≤ c
theorem IsC.ge {w0 w : World} {g : Nat} {bs : List Int} {p : Int} (h : IsC w0 w g bs p) : w0.heap.size ≤ g := by
  obtain ⟨_, _, _, h, _⟩ := h; exact h
theorem IsC.lt {w0 w : World} {g : Nat} {bs : List Int} {p : Int} (h : IsC w0 w g bs p) : g < w.heap.size := by
  obtain ⟨_, _, h, _⟩ := h; exact blk_lt h
def Spc (w0 w : World) (g : Nat) (bs : List Int) (s : RSt) : Prop := Below w0.heap.size w0 w ∧ IsC w0 w g bs (atOf bs s) ∧ SufR bs s
theorem Spc.grow {w0 w w1 : World} {g B : Nat} {bs : List Int} {s : RSt} (h : Spc w0 w g bs s) (hb : Below B w w1) (hB : w0.heap.size ≤ B) (hx : w1.heap[g]? = w.heap[g]?) : Spc w0 w1 g bs s := by
  obtain ⟨h1, ⟨A, c, h2, h3, h4, h6⟩, h5⟩ := h
  exact ⟨⟨hb.os.trans h1.os, hb.tape.trans h1.tape, hb.output.trans h1.output, Nat.le_trans h1.size hb.size, fun k hk => (hb.block k (by omega)).trans (h1.block k hk)⟩, ⟨A, c, hx.trans h2, h3, h4, h6⟩, h5⟩
theorem Spc.below {w0 w w1 : World} {g : Nat} {bs : List Int} {s : RSt} (h : Spc w0 w g bs s) (hb : Below w.heap.size w w1) : Spc w0 w1 g bs s :=
  h.grow hb h.1.size (hb.block g h.2.1.lt)
theorem Spc.new {w0 w : World} {g j k : Nat} {u : Value} {bs : List Int} {s : RSt} (h : Spc w0 w g bs s) (hg : w0.heap.size ≤ k) (hn : k ≠ g) : Spc w0 (w.setCell ⟨k, j, none⟩ u) g bs s :=
  h.grow (B := w0.heap.size) ((Below.refl _ _).setCell hg _) (Nat.le_refl _) (Below.heap_setCell w ⟨k, j, none⟩ u g (Ne.symm hn))
theorem Spc.ne {w0 w : World} {g k t : Nat} {bs : List Int} {s : RSt} {cs : Array Value} (h : Spc w0 w g bs s) (hx : w.heap[k]? = some (.cells cs t (0, 0))) (ht : t ≠ 65) : k ≠ g := by
  obtain ⟨_, ⟨A, c, h2, _⟩, _⟩ := h
  rintro rfl
  rw [h2] at hx
  injection hx with hx
  injection hx with _ hx
  exact ht hx.symm
theorem Spc.go {w0 w : World} {g : Nat} {bs : List Int} {s s' : RSt} (h : Spc w0 w g bs s) (hs : SufR bs s') : Spc w0 (w.setCell ⟨g, 1, none⟩ (.int .i64 (atOf bs s'))) g bs s' := by
  obtain ⟨h1, ⟨A, c, h2, h3, h4, h6⟩, h5⟩ := h
  exact ⟨below_set h1 h3, ⟨A, c, by simpa using blk_set h2 1 (.int .i64 (atOf bs s')), h3, h4, h6⟩, hs⟩
theorem Spc.bad {w0 w : World} {g : Nat} {bs : List Int} {s : RSt} (h : Spc w0 w g bs s) : Spc w0 (w.setCell ⟨g, 1, none⟩ (.int .i64 (-1))) g bs ([], true) := h.go (SufR.none bs)
theorem KeepR.self {g j : Nat} {w w1 : World} {u : Value} (h : KeepR g w w1) : KeepR g w (w1.setCell ⟨g, j, none⟩ u) :=
  ⟨by simpa [World.setCell] using h.1, fun k hk hn => (Below.heap_setCell w1 ⟨g, j, none⟩ u k hn).trans (h.2 k hk hn)⟩
def NumS (w0 : World) (g : Nat) (bs : List Int) (s : RSt) (most : Int) (w : World) (e : Ending) (w' : World) : Prop := e = .returned (.int .i64 (svNum most s)) ∧ Spc w0 w' g bs (srNum most s) ∧ KeepR g w w'

set_option maxHeartbeats 8000000 in
set_option maxRecDepth 100000 in
theorem num_c (w0 : World) (g : Nat) (bs : List Int) (s : RSt) (most : Int) (w : World) (h : Spc w0 w g bs s) (hb : Byt bs) (hl : bs.length ≤ 1099511627) :
    Calls Try.prog 36 #[.pointer (some ⟨g, 0, none⟩), .int .i64 most] w (NumS w0 g bs s most w) := by
  have HS := Lib.hid h
  have HB := Lib.hid hb
  clear h hb
  obtain ⟨A, c, hx, hc, hC, hcap⟩ := id HS.out.2.1
  have HX := Lib.hid hx
  have HC := Lib.hid hC
  clear hx hc hC
  by_cases hbad : s.2 = true
  · have ea : atOf bs s = -1 := by unfold atOf; rw [if_pos hbad]
    obtain ⟨p, hp⟩ : ∃ p, p = atOf bs s := ⟨_, rfl⟩
    rw [← hp] at HX
    have d1 : decide (p < 0) = true := decide_eq_true (by omega)
    have HE : Hid (∀ n, NumS w0 g bs s most w (.returned (.int .i64 0)) ((w.drewN n).setCell ⟨g, 1, none⟩ (.int .i64 (-1)))) := Lib.hid (fun n => by
      refine ⟨by unfold svNum; rw [if_pos (.inl hbad)], ?_, (KeepR.of_below (pw_below_drewN (Below.refl _ _) n)).self⟩
      unfold srNum
      rw [if_pos (.inl hbad)]
      exact (HS.out.below (pw_below_drewN (Below.refl _ _) n)).bad)
    clear ea hp hbad
    have z0 : w.cell? ⟨g, 0, none⟩ = some (.slice A bs.length c) := (blk_cell HX.out 0).trans rfl
    have z1 : w.cell? ⟨g, 1, none⟩ = some (.int .i64 p) := (blk_cell HX.out 1).trans rfl
    have f1 := blk_frozen HX.out 1
    go_enter Try.func36, Try.ntmps36
    go_wp2
    go_quiet (fail)
    go_wp2
    go_ret
    exact HE.out _
  · have hbad' : s.2 = false := by simpa using hbad
    have ea : atOf bs s = (bs.length : Int) - s.1.length := by unfold atOf; rw [if_neg hbad]
    have hle := HS.out.2.2.le hbad'
    obtain ⟨p, hp⟩ : ∃ p, p = atOf bs s := ⟨_, rfl⟩
    rw [← hp] at HX
    have d1 : decide (p < 0) = false := decide_eq_false (by omega)
    have p0 : 0 ≤ p := by omega
    have p1 : p ≤ 1099511627 := by omega
    by_cases hsh : s.1.length < 2
    · have d2 : decide ((bs.length : Int) < p + 2) = true := decide_eq_true (by omega)
      have HE : Hid (∀ n, NumS w0 g bs s most w (.returned (.int .i64 0)) ((w.drewN n).setCell ⟨g, 1, none⟩ (.int .i64 (-1)))) := Lib.hid (fun n => by
        refine ⟨by unfold svNum; rw [if_pos (.inr (.inl hsh))], ?_, (KeepR.of_below (pw_below_drewN (Below.refl _ _) n)).self⟩
        unfold srNum
        rw [if_pos (.inr (.inl hsh))]
        exact (HS.out.below (pw_below_drewN (Below.refl _ _) n)).bad)
      clear ea hp hbad hbad' hle
      have z0 : w.cell? ⟨g, 0, none⟩ = some (.slice A bs.length c) := (blk_cell HX.out 0).trans rfl
      have z1 : w.cell? ⟨g, 1, none⟩ = some (.int .i64 p) := (blk_cell HX.out 1).trans rfl
      have f1 := blk_frozen HX.out 1
      go_enter Try.func36, Try.ntmps36
      go_wp2
      go_quiet (fail)
      go_wp2
      go_ret
      exact HE.out _
    · have d2 : decide ((bs.length : Int) < p + 2) = false := decide_eq_false (by omega)
      have p2 : p + 2 ≤ bs.length := by omega
      have r0 := HS.out.2.2.rd hbad' 0
      have r1 := HS.out.2.2.rd hbad' 1
      have hr := HB.out.suf HS.out.2.2 hbad'
      have b0 := hr.rd 0
      have b1 := hr.rd 1
      obtain ⟨ad, eA, c0⟩ := Kd.at_int HC.out p p0 (by omega)
      subst eA
      obtain ⟨ad', eA, c1⟩ := Kd.at_int HC.out (p + 1) (by omega) (by omega)
      obtain rfl : ad = ad' := Option.some.inj eA
      replace c0 := pw_cell_below HS.out.1 c0
      replace c1 := pw_cell_below HS.out.1 c1
      have f0 : rd bs p = rd s.1 0 := by
        rw [show p = (bs.length : Int) - s.1.length + ((0 : Nat) : Int) from by omega]
        exact r0
      have f1 : rd bs (p + 1) = rd s.1 1 := by
        rw [show p + 1 = (bs.length : Int) - s.1.length + ((1 : Nat) : Int) from by omega]
        exact r1
      rw [f0] at c0
      rw [f1] at c1
      obtain ⟨q0, hq0⟩ : ∃ q, q = rd s.1 0 := ⟨_, rfl⟩
      obtain ⟨q1, hq1⟩ : ∃ q, q = rd s.1 1 := ⟨_, rfl⟩
      rw [← hq0] at c0 b0
      rw [← hq1] at c1 b1
      obtain ⟨b00, b01⟩ := b0
      obtain ⟨b10, b11⟩ := b1
      have HT : Hid (two s.1 = q0 + 256 * q1) := Lib.hid (by unfold two; rw [hq0, hq1])
      have e2 : atOf bs (s.1.drop 2, false) = p + 2 := by
        show (bs.length : Int) - ((s.1.drop 2).length : Int) = _
        rw [List.length_drop]
        omega
      have hn0 : ¬ (s.2 = true ∨ s.1.length < 2) := fun h => h.elim hbad hsh
      by_cases hmo : most < q0 + 256 * q1
      · have d3 : decide (most < q0 + 256 * q1) = true := decide_eq_true hmo
        have HE : Hid (∀ n, NumS w0 g bs s most w (.returned (.int .i64 0)) ((((w.drewN n)).setCell ⟨g, 1, none⟩ (.int .i64 (p + 2))).setCell ⟨g, 1, none⟩ (.int .i64 (-1)))) := Lib.hid (fun n => by
          have h3 : most < two s.1 := by rw [HT.out]; exact hmo
          refine ⟨by unfold svNum; rw [if_pos (.inr (.inr h3))], ?_, ((KeepR.of_below (pw_below_drewN (Below.refl _ _) n)).self).self⟩
          unfold srNum
          rw [if_pos (.inr (.inr h3)), ← e2]
          exact ((HS.out.below (pw_below_drewN (Below.refl _ _) n)).go (HS.out.2.2.drop hbad' 2)).bad)
        clear ea hp hbad hbad' hle r0 r1 hr f0 f1 hq0 hq1 e2 hn0 hsh hmo
        have z0 : w.cell? ⟨g, 0, none⟩ = some (.slice (some ad) bs.length c) := (blk_cell HX.out 0).trans rfl
        have z1 : w.cell? ⟨g, 1, none⟩ = some (.int .i64 p) := (blk_cell HX.out 1).trans rfl
        have f1 := blk_frozen HX.out 1
        go_enter Try.func36, Try.ntmps36
        go_wp2
        go_quiet (fail)
        go_wp2
        go_quiet (fail)
        go_wp2
        go_ret
        exact HE.out _
      · have d3 : decide (most < q0 + 256 * q1) = false := decide_eq_false hmo
        have HE : Hid (∀ n, NumS w0 g bs s most w (.returned (.int .i64 (q0 + 256 * q1))) ((w.drewN n).setCell ⟨g, 1, none⟩ (.int .i64 (p + 2)))) := Lib.hid (fun n => by
          have h3 : ¬ (s.2 = true ∨ s.1.length < 2 ∨ most < two s.1) := by
            rw [HT.out]
            rintro (h | h | h)
            · exact hbad h
            · exact hsh h
            · exact hmo h
          refine ⟨by unfold svNum; rw [if_neg h3, HT.out], ?_, (KeepR.of_below (pw_below_drewN (Below.refl _ _) n)).self⟩
          unfold srNum
          rw [if_neg h3, ← e2]
          exact (HS.out.below (pw_below_drewN (Below.refl _ _) n)).go (HS.out.2.2.drop hbad' 2))
        clear ea hp hbad hbad' hle r0 r1 hr f0 f1 hq0 hq1 e2 hn0 hsh hmo
        have z0 : w.cell? ⟨g, 0, none⟩ = some (.slice (some ad) bs.length c) := (blk_cell HX.out 0).trans rfl
        have z1 : w.cell? ⟨g, 1, none⟩ = some (.int .i64 p) := (blk_cell HX.out 1).trans rfl
        have f1 := blk_frozen HX.out 1
        go_enter Try.func36, Try.ntmps36
        go_wp2
        go_quiet (fail)
        go_wp2
        go_quiet (fail)
        go_wp2
        go_ret
        exact HE.out _

/-- An instruction. -/
def upTo (l : List Int) : Nat → Int
  | 0 => 0
  | i + 1 => bits .or .u64 (IntKind.u64.wrap (upTo l i * 256)) (IntKind.u64.wrap (rd l (11 - (i : Int))))
def svIns (s : RSt) : S68 := if s.2 = true ∨ s.1.length < 12 then ⟨0, 0, 0, 0, 0⟩ else ⟨rd s.1 0, rd s.1 1, rd s.1 2, rd s.1 3, wrap64 (upTo s.1 8)⟩
def srIns (s : RSt) : RSt := if s.2 = true ∨ s.1.length < 12 then ([], true) else (s.1.drop 12, false)
theorem srIns_suf {bs : List Int} {s : RSt} (h : SufR bs s) : SufR bs (srIns s) := by
  unfold srIns
  split
  · exact SufR.none bs
  · rename_i c
    exact h.drop (by simpa using fun e => c (.inl e)) 12
def OneS (w0 : World) (g : Nat) (bs : List Int) (s : RSt) (w : World) (e : Ending) (w' : World) : Prop := e = .returned (.agg #[.int .i64 (svIns s).f0, .int .i64 (svIns s).f1, .int .i64 (svIns s).f2, .int .i64 (svIns s).f3, .int .i64 (svIns s).f4]) ∧ Spc w0 w' g bs (srIns s) ∧ KeepR g w w'

set_option maxHeartbeats 8000000 in
set_option maxRecDepth 100000 in
theorem one_c (w0 : World) (g : Nat) (bs : List Int) (s : RSt) (w : World) (h : Spc w0 w g bs s) (hb : Byt bs) (hl : bs.length ≤ 1099511627) :
    Calls Try.prog 37 #[.pointer (some ⟨g, 0, none⟩)] w (OneS w0 g bs s w) := by
  have HS := Lib.hid h
  have HB := Lib.hid hb
  clear h hb
  obtain ⟨A, c, hx, hc, hC, hcap⟩ := id HS.out.2.1
  have HX := Lib.hid hx
  have HC := Lib.hid hC
  clear hx hc hC
  by_cases hbad : s.2 = true
  · have ea : atOf bs s = -1 := by unfold atOf; rw [if_pos hbad]
    obtain ⟨p, hp⟩ : ∃ p, p = atOf bs s := ⟨_, rfl⟩
    rw [← hp] at HX
    have d1 : decide (p < 0) = true := decide_eq_true (by omega)
    have HV : Hid (svIns s = ⟨0, 0, 0, 0, 0⟩ ∧ srIns s = ([], true)) := Lib.hid (by unfold svIns srIns; rw [if_pos (.inl hbad), if_pos (.inl hbad)]; exact ⟨rfl, rfl⟩)
    clear ea hp hbad
    go_enter Try.func37, Try.ntmps37
    go_upto_region 1 with ((with_reducible refine gate_dst (N := 2) rfl ?_); refine box_event ?hg (N := 2) ?hd (cs := #[.int .i64 0, .int .i64 0, .int .i64 0, .int .i64 0, .int .i64 0]) (t := 68) ?hr ?_; (case hd => rfl); (case hg => rfl); (case hr => first | (go_simp; done) | (go_simp; rfl)); intro g2 hg w2 hbox hb; have HG2 := Lib.hid hg; have HX2 := Lib.hid hbox; have HB2 := Lib.hid hb; have HXc := Lib.hid (blk_below HX.out hb); clear hbox hb hg)
    have z0 : w2.cell? ⟨g, 0, none⟩ = some (.slice A bs.length c) := (blk_cell HXc.out 0).trans rfl
    have z1 : w2.cell? ⟨g, 1, none⟩ = some (.int .i64 p) := (blk_cell HXc.out 1).trans rfl
    have f1 := blk_frozen HXc.out 1
    simp only [Act.put, List.setIfInBounds_toArray, List.set_cons_zero, List.set_cons_succ]
    go_quiet (fail)
    have HX3 : Hid ((w2.drewN nq).heap[g2]? = _) := Lib.hid HX2.out
    have HS3 : Hid (Spc w0 (w2.drewN nq) g bs s) := Lib.hid ((HS.out.below HB2.out).below (pw_below_drewN (Below.refl _ _) nq))
    have HK3 : Hid (KeepR g w (w2.drewN nq)) := Lib.hid (KeepR.of_below (below_step HB2.out (pw_below_drewN (Below.refl _ _) nq)))
    have y0 : (w2.drewN nq).cell? ⟨g, 0, none⟩ = some (.slice A bs.length c) := z0
    have y1 : (w2.drewN nq).cell? ⟨g, 1, none⟩ = some (.int .i64 p) := z1
    have f2 : (w2.drewN nq).frozen? ⟨g, 1, none⟩ = false := f1
    clear z0 z1 f1 HX2 HXc HB2
    generalize w2.drewN nq = w3 at *
    have z0 := (blk_cell HX3.out 0).trans rfl
    have z1 := (blk_cell HX3.out 1).trans rfl
    have z2 := (blk_cell HX3.out 2).trans rfl
    have z3 := (blk_cell HX3.out 3).trans rfl
    have z4 := (blk_cell HX3.out 4).trans rfl
    have k0 := blk_frozen HX3.out 0
    have k1 := blk_frozen HX3.out 1
    have k2 := blk_frozen HX3.out 2
    have k3 := blk_frozen HX3.out 3
    have k4 := blk_frozen HX3.out 4
    have hu68 := Try.underlying68
    have n1 : g2 ≠ g := HS3.out.ne HX3.out (by decide)
    have n2 : g ≠ g2 := Ne.symm n1
    have HE : Hid (∀ w40, (((((((w3.setCell ⟨g, 1, none⟩ (.int .i64 (-1)))).setCell ⟨g2, 0, none⟩ (.int .i64 0)).setCell ⟨g2, 1, none⟩ (.int .i64 0)).setCell ⟨g2, 2, none⟩ (.int .i64 0)).setCell ⟨g2, 3, none⟩ (.int .i64 0)).setCell ⟨g2, 4, none⟩ (.int .i64 0)) = w40 → OneS w0 g bs s w (.returned (.agg #[.int .i64 0, .int .i64 0, .int .i64 0, .int .i64 0, .int .i64 0])) w40 ∧ w40.heap[g2]? = some (.cells #[.int .i64 0, .int .i64 0, .int .i64 0, .int .i64 0, .int .i64 0] 68 (0, 0))) := Lib.hid (by
      rintro w40 rfl
      have hb2 : w0.heap.size ≤ g2 := by rw [HG2.out]; exact HS.out.1.size
      have hg2 : w.heap.size ≤ g2 := Nat.le_of_eq HG2.out.symm
      refine ⟨⟨by rw [HV.out.1], ?_, ?_⟩, ?_⟩
      · rw [HV.out.2]
        exact ((((HS3.out.bad.new hb2 n1).new hb2 n1).new hb2 n1).new hb2 n1).new hb2 n1
      · exact (((((HK3.out.self).new hg2).new hg2).new hg2).new hg2).new hg2
      · have hx := (Below.heap_setCell w3 ⟨g, 1, none⟩ (.int .i64 (-1)) g2 n1).trans HX3.out
        simpa using blk_set (blk_set (blk_set (blk_set (blk_set hx 0 (.int .i64 0)) 1 (.int .i64 0)) 2 (.int .i64 0)) 3 (.int .i64 0)) 4 (.int .i64 0))
    go_wp2
    generalize hW : World.setCell _ _ _ = w40
    obtain ⟨hF, hX⟩ := HE.out w40 hW
    have HF2 := Lib.hid hF
    (try simp only [Exit.inBlock, Exit.then])
    refine bodyPost_ret (results_cell_row rfl _ _ g2 68 _ (0, 0) _ rfl hX Try.underlying68 rfl (by kernel_rfl)) rfl ?_
    exact HF2.out
  · have hbad' : s.2 = false := by simpa using hbad
    have ea : atOf bs s = (bs.length : Int) - s.1.length := by unfold atOf; rw [if_neg hbad]
    have hle := HS.out.2.2.le hbad'
    obtain ⟨p, hp⟩ : ∃ p, p = atOf bs s := ⟨_, rfl⟩
    rw [← hp] at HX
    have d1 : decide (p < 0) = false := decide_eq_false (by omega)
    have p0 : 0 ≤ p := by omega
    have p1 : p ≤ 1099511627 := by omega
    by_cases hsh : s.1.length < 12
    · have d2 : decide ((bs.length : Int) < p + 12) = true := decide_eq_true (by omega)
      have HV : Hid (svIns s = ⟨0, 0, 0, 0, 0⟩ ∧ srIns s = ([], true)) := Lib.hid (by unfold svIns srIns; rw [if_pos (.inr hsh), if_pos (.inr hsh)]; exact ⟨rfl, rfl⟩)
      clear ea hp hbad hbad'
      go_enter Try.func37, Try.ntmps37
      go_upto_region 1 with ((with_reducible refine gate_dst (N := 2) rfl ?_); refine box_event ?hg (N := 2) ?hd (cs := #[.int .i64 0, .int .i64 0, .int .i64 0, .int .i64 0, .int .i64 0]) (t := 68) ?hr ?_; (case hd => rfl); (case hg => rfl); (case hr => first | (go_simp; done) | (go_simp; rfl)); intro g2 hg w2 hbox hb; have HG2 := Lib.hid hg; have HX2 := Lib.hid hbox; have HB2 := Lib.hid hb; have HXc := Lib.hid (blk_below HX.out hb); clear hbox hb hg)
      have z0 : w2.cell? ⟨g, 0, none⟩ = some (.slice A bs.length c) := (blk_cell HXc.out 0).trans rfl
      have z1 : w2.cell? ⟨g, 1, none⟩ = some (.int .i64 p) := (blk_cell HXc.out 1).trans rfl
      have f1 := blk_frozen HXc.out 1
      simp only [Act.put, List.setIfInBounds_toArray, List.set_cons_zero, List.set_cons_succ]
      go_quiet (fail)
      have HX3 : Hid ((w2.drewN nq).heap[g2]? = _) := Lib.hid HX2.out
      have HS3 : Hid (Spc w0 (w2.drewN nq) g bs s) := Lib.hid ((HS.out.below HB2.out).below (pw_below_drewN (Below.refl _ _) nq))
      have HK3 : Hid (KeepR g w (w2.drewN nq)) := Lib.hid (KeepR.of_below (below_step HB2.out (pw_below_drewN (Below.refl _ _) nq)))
      have y0 : (w2.drewN nq).cell? ⟨g, 0, none⟩ = some (.slice A bs.length c) := z0
      have y1 : (w2.drewN nq).cell? ⟨g, 1, none⟩ = some (.int .i64 p) := z1
      have f2 : (w2.drewN nq).frozen? ⟨g, 1, none⟩ = false := f1
      clear z0 z1 f1 HX2 HXc HB2
      generalize w2.drewN nq = w3 at *
      have z0 := (blk_cell HX3.out 0).trans rfl
      have z1 := (blk_cell HX3.out 1).trans rfl
      have z2 := (blk_cell HX3.out 2).trans rfl
      have z3 := (blk_cell HX3.out 3).trans rfl
      have z4 := (blk_cell HX3.out 4).trans rfl
      have k0 := blk_frozen HX3.out 0
      have k1 := blk_frozen HX3.out 1
      have k2 := blk_frozen HX3.out 2
      have k3 := blk_frozen HX3.out 3
      have k4 := blk_frozen HX3.out 4
      have hu68 := Try.underlying68
      have n1 : g2 ≠ g := HS3.out.ne HX3.out (by decide)
      have n2 : g ≠ g2 := Ne.symm n1
      have HE : Hid (∀ w40, (((((((w3.setCell ⟨g, 1, none⟩ (.int .i64 (-1)))).setCell ⟨g2, 0, none⟩ (.int .i64 0)).setCell ⟨g2, 1, none⟩ (.int .i64 0)).setCell ⟨g2, 2, none⟩ (.int .i64 0)).setCell ⟨g2, 3, none⟩ (.int .i64 0)).setCell ⟨g2, 4, none⟩ (.int .i64 0)) = w40 → OneS w0 g bs s w (.returned (.agg #[.int .i64 0, .int .i64 0, .int .i64 0, .int .i64 0, .int .i64 0])) w40 ∧ w40.heap[g2]? = some (.cells #[.int .i64 0, .int .i64 0, .int .i64 0, .int .i64 0, .int .i64 0] 68 (0, 0))) := Lib.hid (by
        rintro w40 rfl
        have hb2 : w0.heap.size ≤ g2 := by rw [HG2.out]; exact HS.out.1.size
        have hg2 : w.heap.size ≤ g2 := Nat.le_of_eq HG2.out.symm
        refine ⟨⟨by rw [HV.out.1], ?_, ?_⟩, ?_⟩
        · rw [HV.out.2]
          exact ((((HS3.out.bad.new hb2 n1).new hb2 n1).new hb2 n1).new hb2 n1).new hb2 n1
        · exact (((((HK3.out.self).new hg2).new hg2).new hg2).new hg2).new hg2
        · have hx := (Below.heap_setCell w3 ⟨g, 1, none⟩ (.int .i64 (-1)) g2 n1).trans HX3.out
          simpa using blk_set (blk_set (blk_set (blk_set (blk_set hx 0 (.int .i64 0)) 1 (.int .i64 0)) 2 (.int .i64 0)) 3 (.int .i64 0)) 4 (.int .i64 0))
      go_wp2
      generalize hW : World.setCell _ _ _ = w40
      obtain ⟨hF, hX⟩ := HE.out w40 hW
      have HF2 := Lib.hid hF
      (try simp only [Exit.inBlock, Exit.then])
      refine bodyPost_ret (results_cell_row rfl _ _ g2 68 _ (0, 0) _ rfl hX Try.underlying68 rfl (by kernel_rfl)) rfl ?_
      exact HF2.out
    · have d2 : decide ((bs.length : Int) < p + 12) = false := decide_eq_false (by omega)
      have HP := Lib.hid (hp.trans ea)
      have p2 : p + 12 ≤ bs.length := by omega
      clear ea hp hbad hsh
      go_enter Try.func37, Try.ntmps37
      go_upto_region 1 with ((with_reducible refine gate_dst (N := 2) rfl ?_); refine box_event ?hg (N := 2) ?hd (cs := #[.int .i64 0, .int .i64 0, .int .i64 0, .int .i64 0, .int .i64 0]) (t := 68) ?hr ?_; (case hd => rfl); (case hg => rfl); (case hr => first | (go_simp; done) | (go_simp; rfl)); intro g2 hg w2 hbox hb; have HG2 := Lib.hid hg; have HX2 := Lib.hid hbox; have HB2 := Lib.hid hb; have HXc := Lib.hid (blk_below HX.out hb); clear hbox hb hg)
      have z0 : w2.cell? ⟨g, 0, none⟩ = some (.slice A bs.length c) := (blk_cell HXc.out 0).trans rfl
      have z1 : w2.cell? ⟨g, 1, none⟩ = some (.int .i64 p) := (blk_cell HXc.out 1).trans rfl
      have f1 := blk_frozen HXc.out 1
      simp only [Act.put, List.setIfInBounds_toArray, List.set_cons_zero, List.set_cons_succ]
      go_quiet (fail)
      have HX3 : Hid ((w2.drewN nq).heap[g2]? = _) := Lib.hid HX2.out
      have HS3 : Hid (Spc w0 (w2.drewN nq) g bs s) := Lib.hid ((HS.out.below HB2.out).below (pw_below_drewN (Below.refl _ _) nq))
      have HK3 : Hid (KeepR g w (w2.drewN nq)) := Lib.hid (KeepR.of_below (below_step HB2.out (pw_below_drewN (Below.refl _ _) nq)))
      have y0 : (w2.drewN nq).cell? ⟨g, 0, none⟩ = some (.slice A bs.length c) := z0
      have y1 : (w2.drewN nq).cell? ⟨g, 1, none⟩ = some (.int .i64 p) := z1
      have f2 : (w2.drewN nq).frozen? ⟨g, 1, none⟩ = false := f1
      clear z0 z1 f1 HX2 HXc HB2
      generalize w2.drewN nq = w3 at *
      have z0 := (blk_cell HX3.out 0).trans rfl
      have z1 := (blk_cell HX3.out 1).trans rfl
      have z2 := (blk_cell HX3.out 2).trans rfl
      have z3 := (blk_cell HX3.out 3).trans rfl
      have z4 := (blk_cell HX3.out 4).trans rfl
      have k0 := blk_frozen HX3.out 0
      have k1 := blk_frozen HX3.out 1
      have k2 := blk_frozen HX3.out 2
      have k3 := blk_frozen HX3.out 3
      have k4 := blk_frozen HX3.out 4
      have hu68 := Try.underlying68
      have n1 : g2 ≠ g := HS3.out.ne HX3.out (by decide)
      have n2 : g ≠ g2 := Ne.symm n1
      obtain ⟨m, hm⟩ : ∃ m : Nat, (m : Int) = p := ⟨p.toNat, by omega⟩
      subst hm
      have hsm : s.1 = bs.drop m := by
        obtain ⟨t, e⟩ := HS.out.2.2 hbad'
        have hl2 := congrArg List.length e
        rw [List.length_append] at hl2
        have hm2 : m = t.length := by have := HP.out; omega
        rw [hm2]
        conv => rhs; rw [e]
        rw [List.drop_left]
      obtain ⟨ad, eA, _⟩ := Kd.at_int HC.out 0 (by omega) (by omega)
      subst eA
      have HD : Hid (Kd.C (Kd.int .u8) w0 (some (ad.add m)) s.1.length s.1) := Lib.hid (by
        have hd := Kd.C_drop HC.out (m := m) (by omega) hcap
        have hs : (Kd.int .u8).sz = 1 := rfl
        rw [hs, Nat.mul_one, if_neg (by omega), ← hsm] at hd
        exact hd)
      have hlm : bs.length - m = s.1.length := by rw [hsm, List.length_drop]
      have p3 : (m : Int) < c := by omega
      have p4 : 12 ≤ s.1.length := by omega
      clear hsm
      go_upto_region 4 with (fail)
      go_quiet (fail)
      clear hlm
      generalize ad.add m = am at *
      go_wp2
      go_loopw [4, 5] (fun v4 v5 wr => ∃ (i : Nat) (q j : Int), v5 = .int .i64 j ∧ v4 = .int .u64 q ∧ Hid (q = upTo s.1 i ∧ j = 7 - (i : Int)) ∧ -1 ≤ j ∧ j ≤ 7 ∧ wr = w3.drewN nq) (fun _ v5 _ => (intOf v5 + 1).toNat)
      case atStart => exact ⟨0, 0, 7, rfl, rfl, Lib.hid ⟨rfl, by omega⟩, by omega, by omega, rfl⟩
      case round =>
        obtain ⟨i, q, j, rfl, rfl, HQ, hj0, hj1, rfl⟩ := hrel
        by_cases hlt : 0 ≤ j
        · have d3 : decide (0 ≤ j) = true := decide_eq_true hlt
          obtain ⟨ad', e1, x0⟩ := Kd.at_int HD.out (4 + j) (by omega) (by omega)
          obtain rfl := Option.some.inj e1
          replace x0 := pw_cell_below HS3.out.1 x0
          have x1 : 0 ≤ 4 + j := by omega
          have x2 : 4 + j < s.1.length := by omega
          clear e1
          go_wp2
          refine ⟨⟨i + 1, _, _, rfl, rfl, Lib.hid ⟨?_, by have := HQ.out.2; omega⟩, by omega, by omega, trivial⟩, by simp [intOf]; omega⟩
          rw [upTo, ← HQ.out.1, show (11 : Int) - (i : Int) = 4 + j from by have := HQ.out.2; omega]
        · have d3 : decide (0 ≤ j) = false := decide_eq_false hlt
          have HU : Hid (q = upTo s.1 8) := Lib.hid (by rw [HQ.out.1, show i = 8 from by have := HQ.out.2; omega])
          clear HQ
          go_upto_region 11 with (fail)
          generalize hw5 : World.setCell _ _ _ = w5
          have e2 : atOf bs (s.1.drop 12, false) = (m : Int) + 12 := by
            show (bs.length : Int) - ((s.1.drop 12).length : Int) = _
            rw [List.length_drop]
            have := HP.out
            omega
          have HS5 : Hid (Spc w0 w5 g bs (s.1.drop 12, false)) := Lib.hid (by
            rw [← hw5, ← e2]
            exact (HS3.out.below (pw_below_drewN (Below.refl _ _) nq)).go (HS.out.2.2.drop hbad' 12))
          have HK5 : Hid (KeepR g w w5) := Lib.hid (by
            rw [← hw5]
            exact (HK3.out.trans (KeepR.of_below (pw_below_drewN (Below.refl _ _) nq))).self)
          have HX5 : Hid (w5.heap[g2]? = some (.cells #[.int .i64 0, .int .i64 0, .int .i64 0, .int .i64 0, .int .i64 0] 68 (0, 0))) := Lib.hid (by
            rw [← hw5]
            exact (Below.heap_setCell (w3.drewN nq) ⟨g, 1, none⟩ (.int .i64 ((m : Int) + 12)) g2 n1).trans HX3.out)
          clear hw5 e2 z0 z1 z2 z3 z4 k0 k1 k2 k3 k4 y0 y1 f2 d3
          obtain ⟨a0, e0, x0⟩ := Kd.at_int HD.out 0 (by omega) (by omega)
          obtain rfl := Option.some.inj e0
          obtain ⟨a1, e1, x1⟩ := Kd.at_int HD.out 1 (by omega) (by omega)
          obtain rfl := Option.some.inj e1
          obtain ⟨a2, e2, x2⟩ := Kd.at_int HD.out 2 (by omega) (by omega)
          obtain rfl := Option.some.inj e2
          obtain ⟨a3, e3, x3⟩ := Kd.at_int HD.out 3 (by omega) (by omega)
          obtain rfl := Option.some.inj e3
          clear e0 e1 e2 e3
          replace x0 := pw_cell_below HS5.out.1 x0
          rw [show (0 : Int).toNat = 0 from rfl, show am.add 0 = am from by unfold Addr.add; rfl] at x0
          replace x1 := pw_cell_below HS5.out.1 x1
          replace x1 : w5.cell? ⟨am.block, am.off + 1, none⟩ = some (.int .u8 (rd s.1 1)) := x1
          replace x2 := pw_cell_below HS5.out.1 x2
          replace x2 : w5.cell? ⟨am.block, am.off + 2, none⟩ = some (.int .u8 (rd s.1 2)) := x2
          replace x3 := pw_cell_below HS5.out.1 x3
          replace x3 : w5.cell? ⟨am.block, am.off + 3, none⟩ = some (.int .u8 (rd s.1 3)) := x3
          have hr := HB.out.suf HS.out.2.2 hbad'
          have b0 := hr.rd 0
          have b1 := hr.rd 1
          have b2 := hr.rd 2
          have b3 := hr.rd 3
          have HV : Hid (svIns s = ⟨rd s.1 0, rd s.1 1, rd s.1 2, rd s.1 3, wrap64 (upTo s.1 8)⟩ ∧ srIns s = (s.1.drop 12, false)) := Lib.hid (by
            have hn : ¬ (s.2 = true ∨ s.1.length < 12) := by
              rw [hbad']
              rintro (h | h)
              · cases h
              · omega
            unfold svIns srIns
            rw [if_neg hn, if_neg hn]
            exact ⟨rfl, rfl⟩)
          obtain ⟨q0, hq0⟩ : ∃ q, q = rd s.1 0 := ⟨_, rfl⟩
          obtain ⟨q1, hq1⟩ : ∃ q, q = rd s.1 1 := ⟨_, rfl⟩
          obtain ⟨q2, hq2⟩ : ∃ q, q = rd s.1 2 := ⟨_, rfl⟩
          obtain ⟨q3, hq3⟩ : ∃ q, q = rd s.1 3 := ⟨_, rfl⟩
          rw [← hq0] at x0 b0 HV
          rw [← hq1] at x1 b1 HV
          rw [← hq2] at x2 b2 HV
          rw [← hq3] at x3 b3 HV
          obtain ⟨b00, b01⟩ := b0
          obtain ⟨b10, b11⟩ := b1
          obtain ⟨b20, b21⟩ := b2
          obtain ⟨b30, b31⟩ := b3
          clear hq0 hq1 hq2 hq3 hr
          have i0 : 0 < s.1.length := by omega
          have i1 : 1 < s.1.length := by omega
          have i2 : 2 < s.1.length := by omega
          have i3 : 3 < s.1.length := by omega
          have j0 : (0 : Int) < (s.1.length : Int) := by omega
          have j1 : (1 : Int) < (s.1.length : Int) := by omega
          have j2 : (2 : Int) < (s.1.length : Int) := by omega
          have j3 : (3 : Int) < (s.1.length : Int) := by omega
          go_still_tail 19, (by kernel_rfl)
          change wpList _ _ _ _ _ w5.drew
          have HS6 : Hid (Spc w0 w5.drew g bs (s.1.drop 12, false)) := Lib.hid (HS5.out.below (below_drew (Below.refl _ _)))
          have HK6 : Hid (KeepR g w w5.drew) := Lib.hid (HK5.out.trans (KeepR.of_below (below_drew (Below.refl _ _))))
          have HX6 : Hid (w5.drew.heap[g2]? = some (.cells #[.int .i64 0, .int .i64 0, .int .i64 0, .int .i64 0, .int .i64 0] 68 (0, 0))) := Lib.hid HX5.out
          generalize w5.drew = w6 at *
          clear HS5 HK5 HX5
          have z0 := (blk_cell HX6.out 0).trans rfl
          have z1 := (blk_cell HX6.out 1).trans rfl
          have z2 := (blk_cell HX6.out 2).trans rfl
          have z3 := (blk_cell HX6.out 3).trans rfl
          have z4 := (blk_cell HX6.out 4).trans rfl
          have k0 := blk_frozen HX6.out 0
          have k1 := blk_frozen HX6.out 1
          have k2 := blk_frozen HX6.out 2
          have k3 := blk_frozen HX6.out 3
          have k4 := blk_frozen HX6.out 4
          have HE : Hid (∀ q', q' = wrap64 q → ∀ w40, (((((w6.setCell ⟨g2, 0, none⟩ (.int .i64 q0)).setCell ⟨g2, 1, none⟩ (.int .i64 q1)).setCell ⟨g2, 2, none⟩ (.int .i64 q2)).setCell ⟨g2, 3, none⟩ (.int .i64 q3)).setCell ⟨g2, 4, none⟩ (.int .i64 q')) = w40 → OneS w0 g bs s w (.returned (.agg #[.int .i64 q0, .int .i64 q1, .int .i64 q2, .int .i64 q3, .int .i64 q'])) w40 ∧ w40.heap[g2]? = some (.cells #[.int .i64 q0, .int .i64 q1, .int .i64 q2, .int .i64 q3, .int .i64 q'] 68 (0, 0))) := Lib.hid (by
            rintro q' rfl w40 rfl
            have hb2 : w0.heap.size ≤ g2 := by rw [HG2.out]; exact HS.out.1.size
            have hg2 : w.heap.size ≤ g2 := Nat.le_of_eq HG2.out.symm
            refine ⟨⟨by rw [HV.out.1, HU.out], ?_, ?_⟩, ?_⟩
            · rw [HV.out.2]
              exact ((((HS6.out.new hb2 n1).new hb2 n1).new hb2 n1).new hb2 n1).new hb2 n1
            · exact ((((HK6.out.new hg2).new hg2).new hg2).new hg2).new hg2
            · simpa using blk_set (blk_set (blk_set (blk_set (blk_set HX6.out 0 (.int .i64 q0)) 1 (.int .i64 q1)) 2 (.int .i64 q2)) 3 (.int .i64 q3)) 4 (.int .i64 (wrap64 q)))
          go_wp2
          generalize hW : World.setCell _ _ _ = w40
          obtain ⟨hF, hX⟩ := HE.out _ (by first | rfl | exact (i64_w _)) w40 hW
          have HF2 := Lib.hid hF
          (try simp only [Exit.inBlock, Exit.then])
          refine bodyPost_ret (results_cell_row rfl _ _ g2 68 _ (0, 0) _ rfl hX Try.underlying68 rfl (by kernel_rfl)) rfl ?_
          exact HF2.out

end Go.Proofs.Ytkfeoilnhpfknaa.ImFnExactImageRead
