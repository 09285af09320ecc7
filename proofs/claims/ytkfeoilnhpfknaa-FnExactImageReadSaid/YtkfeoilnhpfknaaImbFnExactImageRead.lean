/- The contract of (*impl.Image).numberOk: an image and a code by pointers, an instruction by value. Written by wip/gen_num.py. -/
import Derived.Test.YtkfeoilnhpfknaaImaFnExactImageRead
import Derived.BigQuiet
import Derived.Deep.QuietTactic
namespace Go.Proofs.Ytkfeoilnhpfknaa.ImFnExactImageRead
open Go.RowKit Go.Proofs.Ytkfeoilnhpfknaa.QFnExactImageRead Go.Proofs.YtkfeoilnhpfknaaW.PrintWords Go.Proofs.YtkfeoilnhpfknaaW.PrintLast

/-- An image in memory, at block g. -/
def MemI (w : World) (g : Nat) (l0 : List (List Bool)) (l1 : List S53) (a2 : Int) : Prop := ∃ A0 c0 A1 c1, w.heap[g]? = some (.cells #[.slice A0 l0.length c0, .slice A1 l1.length c1, .int .i64 a2] 30 (0, 0)) ∧ Kd.C (Kd.slice 4 Kd.bool) w A0 l0.length l0 ∧ Kd.C k53 w A1 l1.length l1
/-- A code in memory, at the address p. -/
def MemC (w : World) (p : Addr) (x : S53) : Prop := ∃ A2 c2 A3 c3, w.cell? p = some (.int .i64 x.f0) ∧ w.cell? ⟨p.block, p.off + 1, none⟩ = some (.int .i64 x.f1) ∧ w.cell? ⟨p.block, p.off + 2, none⟩ = some (.slice A2 x.f2.length c2) ∧ w.cell? ⟨p.block, p.off + 3, none⟩ = some (.slice A3 x.f3.length c3) ∧ k68.C w A2 x.f2.length x.f2 ∧ k72.C w A3 x.f3.length x.f3

theorem MemI.below {w w1 : World} {g : Nat} {l0 : List (List Bool)} {l1 : List S53} {a2 : Int} (h : MemI w g l0 l1 a2) (hb : Below w.heap.size w w1) : MemI w1 g l0 l1 a2 := by
  obtain ⟨A0, c0, A1, c1, h1, h2, h3⟩ := h
  exact ⟨A0, c0, A1, c1, blk_below h1 hb, Kd.C_below h2 hb, Kd.C_below h3 hb⟩
theorem MemC.below {w w1 : World} {p : Addr} {x : S53} (h : MemC w p x) (hb : Below w.heap.size w w1) : MemC w1 p x := by
  obtain ⟨A2, c2, A3, c3, h0, h1, h2, h3, h4, h5⟩ := h
  exact ⟨A2, c2, A3, c3, pw_cell_below hb h0, pw_cell_below hb h1, pw_cell_below hb h2, pw_cell_below hb h3, Kd.C_below h4 hb, Kd.C_below h5 hb⟩

/-- impl.in. -/
def inB (a b c : Int) : Bool := if b ≤ a then decide (a ≤ c) else false
theorem in_c (a b c : Int) (w : World) : Calls Try.prog 27 #[.int .i64 a, .int .i64 b, .int .i64 c] w fun e w' => e = .returned (.bool (inB a b c)) ∧ w = w' := by
  by_cases h : b ≤ a
  · have e : inB a b c = decide (a ≤ c) := if_pos h
    rw [e]
    clear e
    go_enter Try.func27, Try.ntmps27
    go_wp2
    go_ret
    exact ⟨rfl, rfl⟩
  · have e : inB a b c = false := if_neg h
    rw [e]
    clear e
    go_enter Try.func27, Try.ntmps27
    go_wp2
    go_ret
    exact ⟨rfl, rfl⟩

theorem in_q (a b c : Int) (w : World) : Calls Try.prog 27 #[.int .i64 a, .int .i64 b, .int .i64 c] w fun e w' => e = .returned (.bool (inB a b c)) ∧ w' = w := (in_c a b c w).mono fun _ _ ⟨he, hw⟩ => ⟨he, hw.symm⟩

/-- What numberOk answers: frame, ni: the code's frame and length; ns, nc: the image's. -/
def numOk (f0 f4 frame ni ns nc : Int) : Bool :=
  if f0 = 0 then true else if f0 = 2 then inB f4 3 (wrap64 (frame - 1)) else if f0 = 3 then inB f4 3 (wrap64 (frame - 1)) else if f0 = 4 then inB f4 0 6 else if f0 = 5 then inB f4 0 5
  else if f0 = 10 then inB f4 0 (wrap64 (ns - 1)) else if f0 = 11 then inB f4 0 2 else if f0 = 16 then inB f4 0 4 else if f0 = 17 then inB f4 0 4 else if f0 = 21 then inB f4 0 1 else if f0 = 24 then inB f4 0 1
  else if f0 = 22 then inB f4 0 3 else if f0 = 23 then inB f4 0 (wrap64 (nc - 1)) else if f0 = 26 then inB f4 0 (wrap64 (ni - 1)) else if f0 = 27 then inB f4 0 (wrap64 (ni - 1)) else f4 == 0

def Says (b : Bool) (w : World) (e : Ending) (w' : World) : Prop := e = .returned (.bool b) ∧ Below w.heap.size w w'

set_option maxHeartbeats 4000000 in
theorem num0 (g : Nat) (p : Addr) (l0 : List (List Bool)) (l1 : List S53) (a2 : Int) (c : S53) (f1 f2 f3 f4 : Int) (w : World) (hI : MemI w g l0 l1 a2) (hC : MemC w p c) : Calls Try.prog 55 #[.pointer (some ⟨g, 0, none⟩), .pointer (some p), .agg #[.int .i64 0, .int .i64 f1, .int .i64 f2, .int .i64 f3, .int .i64 f4]] w (Says (true) w) := by
  have HI := Lib.hid hI
  have HC := Lib.hid hC
  have hu68 := Try.underlying68
  clear hI hC
  go_enter Try.func55, Try.ntmps55
  go_wp2_with (first | ((with_reducible refine gate_dst (N := 5) rfl ?_); refine box_event ?hg (N := 5) ?hd (cs := #[.int .i64 0, .int .i64 f1, .int .i64 f2, .int .i64 f3, .int .i64 f4]) (t := 68) ?hr ?_; (case hd => rfl); (case hg => rfl); (case hr => first | (go_simp; done) | (go_simp; rfl)); intro gb hg w6 hbox hb; clear hg; have z0 := (blk_cell hbox 0).trans rfl; have z4 := (blk_cell hbox 4).trans rfl; have HB := Lib.hid hb; obtain ⟨A0, c0, A1, c1, hI1, hI2, hI3⟩ := HI.out; have y0 := (blk_cell (blk_below hI1 hb) 0).trans rfl; have y1 := (blk_cell (blk_below hI1 hb) 1).trans rfl; obtain ⟨A2, c2, A3, c3, hC0, hC1, hC2, hC3, hC4, hC5⟩ := HC.out; replace hC0 := pw_cell_below hb hC0; replace hC2 := pw_cell_below hb hC2; clear hC1 hC3 hC4 hC5 hI1 hI2 hI3 hbox hb HI HC) | (go_at_call 27; refine (in_c _ _ _ _).mono ?_; rintro e w' ⟨rfl, rfl⟩))
  go_ret
  exact ⟨rfl, HB.out⟩

set_option maxHeartbeats 4000000 in
theorem num2 (g : Nat) (p : Addr) (l0 : List (List Bool)) (l1 : List S53) (a2 : Int) (c : S53) (f1 f2 f3 f4 : Int) (w : World) (hI : MemI w g l0 l1 a2) (hC : MemC w p c) : Calls Try.prog 55 #[.pointer (some ⟨g, 0, none⟩), .pointer (some p), .agg #[.int .i64 2, .int .i64 f1, .int .i64 f2, .int .i64 f3, .int .i64 f4]] w (Says (inB f4 3 (wrap64 (c.f0 - 1))) w) := by
  have HI := Lib.hid hI
  have HC := Lib.hid hC
  have hu68 := Try.underlying68
  clear hI hC
  go_enter Try.func55, Try.ntmps55
  go_wp2_with (first | ((with_reducible refine gate_dst (N := 5) rfl ?_); refine box_event ?hg (N := 5) ?hd (cs := #[.int .i64 2, .int .i64 f1, .int .i64 f2, .int .i64 f3, .int .i64 f4]) (t := 68) ?hr ?_; (case hd => rfl); (case hg => rfl); (case hr => first | (go_simp; done) | (go_simp; rfl)); intro gb hg w6 hbox hb; clear hg; have z0 := (blk_cell hbox 0).trans rfl; have z4 := (blk_cell hbox 4).trans rfl; have HB := Lib.hid hb; obtain ⟨A0, c0, A1, c1, hI1, hI2, hI3⟩ := HI.out; have y0 := (blk_cell (blk_below hI1 hb) 0).trans rfl; have y1 := (blk_cell (blk_below hI1 hb) 1).trans rfl; obtain ⟨A2, c2, A3, c3, hC0, hC1, hC2, hC3, hC4, hC5⟩ := HC.out; replace hC0 := pw_cell_below hb hC0; replace hC2 := pw_cell_below hb hC2; clear hC1 hC3 hC4 hC5 hI1 hI2 hI3 hbox hb HI HC) | (go_at_call 27; refine (in_c _ _ _ _).mono ?_; rintro e w' ⟨rfl, rfl⟩))
  go_quiet ((go_at_call 27; exact Calls.quiet_of_same (in_q _ _ _ _)))
  all_goals go_wp2
  all_goals go_ret
  all_goals exact ⟨rfl, by first | exact HB.out | exact pw_below_drewN HB.out _ | exact below_drew HB.out⟩

set_option maxHeartbeats 4000000 in
theorem num3 (g : Nat) (p : Addr) (l0 : List (List Bool)) (l1 : List S53) (a2 : Int) (c : S53) (f1 f2 f3 f4 : Int) (w : World) (hI : MemI w g l0 l1 a2) (hC : MemC w p c) : Calls Try.prog 55 #[.pointer (some ⟨g, 0, none⟩), .pointer (some p), .agg #[.int .i64 3, .int .i64 f1, .int .i64 f2, .int .i64 f3, .int .i64 f4]] w (Says (inB f4 3 (wrap64 (c.f0 - 1))) w) := by
  have HI := Lib.hid hI
  have HC := Lib.hid hC
  have hu68 := Try.underlying68
  clear hI hC
  go_enter Try.func55, Try.ntmps55
  go_wp2_with (first | ((with_reducible refine gate_dst (N := 5) rfl ?_); refine box_event ?hg (N := 5) ?hd (cs := #[.int .i64 3, .int .i64 f1, .int .i64 f2, .int .i64 f3, .int .i64 f4]) (t := 68) ?hr ?_; (case hd => rfl); (case hg => rfl); (case hr => first | (go_simp; done) | (go_simp; rfl)); intro gb hg w6 hbox hb; clear hg; have z0 := (blk_cell hbox 0).trans rfl; have z4 := (blk_cell hbox 4).trans rfl; have HB := Lib.hid hb; obtain ⟨A0, c0, A1, c1, hI1, hI2, hI3⟩ := HI.out; have y0 := (blk_cell (blk_below hI1 hb) 0).trans rfl; have y1 := (blk_cell (blk_below hI1 hb) 1).trans rfl; obtain ⟨A2, c2, A3, c3, hC0, hC1, hC2, hC3, hC4, hC5⟩ := HC.out; replace hC0 := pw_cell_below hb hC0; replace hC2 := pw_cell_below hb hC2; clear hC1 hC3 hC4 hC5 hI1 hI2 hI3 hbox hb HI HC) | (go_at_call 27; refine (in_c _ _ _ _).mono ?_; rintro e w' ⟨rfl, rfl⟩))
  go_quiet ((go_at_call 27; exact Calls.quiet_of_same (in_q _ _ _ _)))
  all_goals go_wp2
  all_goals go_ret
  all_goals exact ⟨rfl, by first | exact HB.out | exact pw_below_drewN HB.out _ | exact below_drew HB.out⟩

set_option maxHeartbeats 4000000 in
theorem num4 (g : Nat) (p : Addr) (l0 : List (List Bool)) (l1 : List S53) (a2 : Int) (c : S53) (f1 f2 f3 f4 : Int) (w : World) (hI : MemI w g l0 l1 a2) (hC : MemC w p c) : Calls Try.prog 55 #[.pointer (some ⟨g, 0, none⟩), .pointer (some p), .agg #[.int .i64 4, .int .i64 f1, .int .i64 f2, .int .i64 f3, .int .i64 f4]] w (Says (inB f4 0 6) w) := by
  have HI := Lib.hid hI
  have HC := Lib.hid hC
  have hu68 := Try.underlying68
  clear hI hC
  go_enter Try.func55, Try.ntmps55
  go_wp2_with (first | ((with_reducible refine gate_dst (N := 5) rfl ?_); refine box_event ?hg (N := 5) ?hd (cs := #[.int .i64 4, .int .i64 f1, .int .i64 f2, .int .i64 f3, .int .i64 f4]) (t := 68) ?hr ?_; (case hd => rfl); (case hg => rfl); (case hr => first | (go_simp; done) | (go_simp; rfl)); intro gb hg w6 hbox hb; clear hg; have z0 := (blk_cell hbox 0).trans rfl; have z4 := (blk_cell hbox 4).trans rfl; have HB := Lib.hid hb; obtain ⟨A0, c0, A1, c1, hI1, hI2, hI3⟩ := HI.out; have y0 := (blk_cell (blk_below hI1 hb) 0).trans rfl; have y1 := (blk_cell (blk_below hI1 hb) 1).trans rfl; obtain ⟨A2, c2, A3, c3, hC0, hC1, hC2, hC3, hC4, hC5⟩ := HC.out; replace hC0 := pw_cell_below hb hC0; replace hC2 := pw_cell_below hb hC2; clear hC1 hC3 hC4 hC5 hI1 hI2 hI3 hbox hb HI HC) | (go_at_call 27; refine (in_c _ _ _ _).mono ?_; rintro e w' ⟨rfl, rfl⟩))
  go_ret
  exact ⟨rfl, HB.out⟩

set_option maxHeartbeats 4000000 in
theorem num5 (g : Nat) (p : Addr) (l0 : List (List Bool)) (l1 : List S53) (a2 : Int) (c : S53) (f1 f2 f3 f4 : Int) (w : World) (hI : MemI w g l0 l1 a2) (hC : MemC w p c) : Calls Try.prog 55 #[.pointer (some ⟨g, 0, none⟩), .pointer (some p), .agg #[.int .i64 5, .int .i64 f1, .int .i64 f2, .int .i64 f3, .int .i64 f4]] w (Says (inB f4 0 5) w) := by
  have HI := Lib.hid hI
  have HC := Lib.hid hC
  have hu68 := Try.underlying68
  clear hI hC
  go_enter Try.func55, Try.ntmps55
  go_wp2_with (first | ((with_reducible refine gate_dst (N := 5) rfl ?_); refine box_event ?hg (N := 5) ?hd (cs := #[.int .i64 5, .int .i64 f1, .int .i64 f2, .int .i64 f3, .int .i64 f4]) (t := 68) ?hr ?_; (case hd => rfl); (case hg => rfl); (case hr => first | (go_simp; done) | (go_simp; rfl)); intro gb hg w6 hbox hb; clear hg; have z0 := (blk_cell hbox 0).trans rfl; have z4 := (blk_cell hbox 4).trans rfl; have HB := Lib.hid hb; obtain ⟨A0, c0, A1, c1, hI1, hI2, hI3⟩ := HI.out; have y0 := (blk_cell (blk_below hI1 hb) 0).trans rfl; have y1 := (blk_cell (blk_below hI1 hb) 1).trans rfl; obtain ⟨A2, c2, A3, c3, hC0, hC1, hC2, hC3, hC4, hC5⟩ := HC.out; replace hC0 := pw_cell_below hb hC0; replace hC2 := pw_cell_below hb hC2; clear hC1 hC3 hC4 hC5 hI1 hI2 hI3 hbox hb HI HC) | (go_at_call 27; refine (in_c _ _ _ _).mono ?_; rintro e w' ⟨rfl, rfl⟩))
  go_ret
  exact ⟨rfl, HB.out⟩

set_option maxHeartbeats 4000000 in
theorem num10 (g : Nat) (p : Addr) (l0 : List (List Bool)) (l1 : List S53) (a2 : Int) (c : S53) (f1 f2 f3 f4 : Int) (w : World) (hI : MemI w g l0 l1 a2) (hC : MemC w p c) : Calls Try.prog 55 #[.pointer (some ⟨g, 0, none⟩), .pointer (some p), .agg #[.int .i64 10, .int .i64 f1, .int .i64 f2, .int .i64 f3, .int .i64 f4]] w (Says (inB f4 0 (wrap64 ((l0.length : Int) - 1))) w) := by
  have HI := Lib.hid hI
  have HC := Lib.hid hC
  have hu68 := Try.underlying68
  clear hI hC
  go_enter Try.func55, Try.ntmps55
  go_wp2_with (first | ((with_reducible refine gate_dst (N := 5) rfl ?_); refine box_event ?hg (N := 5) ?hd (cs := #[.int .i64 10, .int .i64 f1, .int .i64 f2, .int .i64 f3, .int .i64 f4]) (t := 68) ?hr ?_; (case hd => rfl); (case hg => rfl); (case hr => first | (go_simp; done) | (go_simp; rfl)); intro gb hg w6 hbox hb; clear hg; have z0 := (blk_cell hbox 0).trans rfl; have z4 := (blk_cell hbox 4).trans rfl; have HB := Lib.hid hb; obtain ⟨A0, c0, A1, c1, hI1, hI2, hI3⟩ := HI.out; have y0 := (blk_cell (blk_below hI1 hb) 0).trans rfl; have y1 := (blk_cell (blk_below hI1 hb) 1).trans rfl; obtain ⟨A2, c2, A3, c3, hC0, hC1, hC2, hC3, hC4, hC5⟩ := HC.out; replace hC0 := pw_cell_below hb hC0; replace hC2 := pw_cell_below hb hC2; clear hC1 hC3 hC4 hC5 hI1 hI2 hI3 hbox hb HI HC) | (go_at_call 27; refine (in_c _ _ _ _).mono ?_; rintro e w' ⟨rfl, rfl⟩))
  go_quiet ((go_at_call 27; exact Calls.quiet_of_same (in_q _ _ _ _)))
  all_goals go_wp2
  all_goals go_ret
  all_goals exact ⟨rfl, by first | exact HB.out | exact pw_below_drewN HB.out _ | exact below_drew HB.out⟩

set_option maxHeartbeats 4000000 in
theorem num11 (g : Nat) (p : Addr) (l0 : List (List Bool)) (l1 : List S53) (a2 : Int) (c : S53) (f1 f2 f3 f4 : Int) (w : World) (hI : MemI w g l0 l1 a2) (hC : MemC w p c) : Calls Try.prog 55 #[.pointer (some ⟨g, 0, none⟩), .pointer (some p), .agg #[.int .i64 11, .int .i64 f1, .int .i64 f2, .int .i64 f3, .int .i64 f4]] w (Says (inB f4 0 2) w) := by
  have HI := Lib.hid hI
  have HC := Lib.hid hC
  have hu68 := Try.underlying68
  clear hI hC
  go_enter Try.func55, Try.ntmps55
  go_wp2_with (first | ((with_reducible refine gate_dst (N := 5) rfl ?_); refine box_event ?hg (N := 5) ?hd (cs := #[.int .i64 11, .int .i64 f1, .int .i64 f2, .int .i64 f3, .int .i64 f4]) (t := 68) ?hr ?_; (case hd => rfl); (case hg => rfl); (case hr => first | (go_simp; done) | (go_simp; rfl)); intro gb hg w6 hbox hb; clear hg; have z0 := (blk_cell hbox 0).trans rfl; have z4 := (blk_cell hbox 4).trans rfl; have HB := Lib.hid hb; obtain ⟨A0, c0, A1, c1, hI1, hI2, hI3⟩ := HI.out; have y0 := (blk_cell (blk_below hI1 hb) 0).trans rfl; have y1 := (blk_cell (blk_below hI1 hb) 1).trans rfl; obtain ⟨A2, c2, A3, c3, hC0, hC1, hC2, hC3, hC4, hC5⟩ := HC.out; replace hC0 := pw_cell_below hb hC0; replace hC2 := pw_cell_below hb hC2; clear hC1 hC3 hC4 hC5 hI1 hI2 hI3 hbox hb HI HC) | (go_at_call 27; refine (in_c _ _ _ _).mono ?_; rintro e w' ⟨rfl, rfl⟩))
  go_ret
  exact ⟨rfl, HB.out⟩

set_option maxHeartbeats 4000000 in
theorem num16 (g : Nat) (p : Addr) (l0 : List (List Bool)) (l1 : List S53) (a2 : Int) (c : S53) (f1 f2 f3 f4 : Int) (w : World) (hI : MemI w g l0 l1 a2) (hC : MemC w p c) : Calls Try.prog 55 #[.pointer (some ⟨g, 0, none⟩), .pointer (some p), .agg #[.int .i64 16, .int .i64 f1, .int .i64 f2, .int .i64 f3, .int .i64 f4]] w (Says (inB f4 0 4) w) := by
  have HI := Lib.hid hI
  have HC := Lib.hid hC
  have hu68 := Try.underlying68
  clear hI hC
  go_enter Try.func55, Try.ntmps55
  go_wp2_with (first | ((with_reducible refine gate_dst (N := 5) rfl ?_); refine box_event ?hg (N := 5) ?hd (cs := #[.int .i64 16, .int .i64 f1, .int .i64 f2, .int .i64 f3, .int .i64 f4]) (t := 68) ?hr ?_; (case hd => rfl); (case hg => rfl); (case hr => first | (go_simp; done) | (go_simp; rfl)); intro gb hg w6 hbox hb; clear hg; have z0 := (blk_cell hbox 0).trans rfl; have z4 := (blk_cell hbox 4).trans rfl; have HB := Lib.hid hb; obtain ⟨A0, c0, A1, c1, hI1, hI2, hI3⟩ := HI.out; have y0 := (blk_cell (blk_below hI1 hb) 0).trans rfl; have y1 := (blk_cell (blk_below hI1 hb) 1).trans rfl; obtain ⟨A2, c2, A3, c3, hC0, hC1, hC2, hC3, hC4, hC5⟩ := HC.out; replace hC0 := pw_cell_below hb hC0; replace hC2 := pw_cell_below hb hC2; clear hC1 hC3 hC4 hC5 hI1 hI2 hI3 hbox hb HI HC) | (go_at_call 27; refine (in_c _ _ _ _).mono ?_; rintro e w' ⟨rfl, rfl⟩))
  go_ret
  exact ⟨rfl, HB.out⟩

set_option maxHeartbeats 4000000 in
theorem num17 (g : Nat) (p : Addr) (l0 : List (List Bool)) (l1 : List S53) (a2 : Int) (c : S53) (f1 f2 f3 f4 : Int) (w : World) (hI : MemI w g l0 l1 a2) (hC : MemC w p c) : Calls Try.prog 55 #[.pointer (some ⟨g, 0, none⟩), .pointer (some p), .agg #[.int .i64 17, .int .i64 f1, .int .i64 f2, .int .i64 f3, .int .i64 f4]] w (Says (inB f4 0 4) w) := by
  have HI := Lib.hid hI
  have HC := Lib.hid hC
  have hu68 := Try.underlying68
  clear hI hC
  go_enter Try.func55, Try.ntmps55
  go_wp2_with (first | ((with_reducible refine gate_dst (N := 5) rfl ?_); refine box_event ?hg (N := 5) ?hd (cs := #[.int .i64 17, .int .i64 f1, .int .i64 f2, .int .i64 f3, .int .i64 f4]) (t := 68) ?hr ?_; (case hd => rfl); (case hg => rfl); (case hr => first | (go_simp; done) | (go_simp; rfl)); intro gb hg w6 hbox hb; clear hg; have z0 := (blk_cell hbox 0).trans rfl; have z4 := (blk_cell hbox 4).trans rfl; have HB := Lib.hid hb; obtain ⟨A0, c0, A1, c1, hI1, hI2, hI3⟩ := HI.out; have y0 := (blk_cell (blk_below hI1 hb) 0).trans rfl; have y1 := (blk_cell (blk_below hI1 hb) 1).trans rfl; obtain ⟨A2, c2, A3, c3, hC0, hC1, hC2, hC3, hC4, hC5⟩ := HC.out; replace hC0 := pw_cell_below hb hC0; replace hC2 := pw_cell_below hb hC2; clear hC1 hC3 hC4 hC5 hI1 hI2 hI3 hbox hb HI HC) | (go_at_call 27; refine (in_c _ _ _ _).mono ?_; rintro e w' ⟨rfl, rfl⟩))
  go_ret
  exact ⟨rfl, HB.out⟩

set_option maxHeartbeats 4000000 in
theorem num21 (g : Nat) (p : Addr) (l0 : List (List Bool)) (l1 : List S53) (a2 : Int) (c : S53) (f1 f2 f3 f4 : Int) (w : World) (hI : MemI w g l0 l1 a2) (hC : MemC w p c) : Calls Try.prog 55 #[.pointer (some ⟨g, 0, none⟩), .pointer (some p), .agg #[.int .i64 21, .int .i64 f1, .int .i64 f2, .int .i64 f3, .int .i64 f4]] w (Says (inB f4 0 1) w) := by
  have HI := Lib.hid hI
  have HC := Lib.hid hC
  have hu68 := Try.underlying68
  clear hI hC
  go_enter Try.func55, Try.ntmps55
  go_wp2_with (first | ((with_reducible refine gate_dst (N := 5) rfl ?_); refine box_event ?hg (N := 5) ?hd (cs := #[.int .i64 21, .int .i64 f1, .int .i64 f2, .int .i64 f3, .int .i64 f4]) (t := 68) ?hr ?_; (case hd => rfl); (case hg => rfl); (case hr => first | (go_simp; done) | (go_simp; rfl)); intro gb hg w6 hbox hb; clear hg; have z0 := (blk_cell hbox 0).trans rfl; have z4 := (blk_cell hbox 4).trans rfl; have HB := Lib.hid hb; obtain ⟨A0, c0, A1, c1, hI1, hI2, hI3⟩ := HI.out; have y0 := (blk_cell (blk_below hI1 hb) 0).trans rfl; have y1 := (blk_cell (blk_below hI1 hb) 1).trans rfl; obtain ⟨A2, c2, A3, c3, hC0, hC1, hC2, hC3, hC4, hC5⟩ := HC.out; replace hC0 := pw_cell_below hb hC0; replace hC2 := pw_cell_below hb hC2; clear hC1 hC3 hC4 hC5 hI1 hI2 hI3 hbox hb HI HC) | (go_at_call 27; refine (in_c _ _ _ _).mono ?_; rintro e w' ⟨rfl, rfl⟩))
  go_ret
  exact ⟨rfl, HB.out⟩

set_option maxHeartbeats 4000000 in
theorem num24 (g : Nat) (p : Addr) (l0 : List (List Bool)) (l1 : List S53) (a2 : Int) (c : S53) (f1 f2 f3 f4 : Int) (w : World) (hI : MemI w g l0 l1 a2) (hC : MemC w p c) : Calls Try.prog 55 #[.pointer (some ⟨g, 0, none⟩), .pointer (some p), .agg #[.int .i64 24, .int .i64 f1, .int .i64 f2, .int .i64 f3, .int .i64 f4]] w (Says (inB f4 0 1) w) := by
  have HI := Lib.hid hI
  have HC := Lib.hid hC
  have hu68 := Try.underlying68
  clear hI hC
  go_enter Try.func55, Try.ntmps55
  go_wp2_with (first | ((with_reducible refine gate_dst (N := 5) rfl ?_); refine box_event ?hg (N := 5) ?hd (cs := #[.int .i64 24, .int .i64 f1, .int .i64 f2, .int .i64 f3, .int .i64 f4]) (t := 68) ?hr ?_; (case hd => rfl); (case hg => rfl); (case hr => first | (go_simp; done) | (go_simp; rfl)); intro gb hg w6 hbox hb; clear hg; have z0 := (blk_cell hbox 0).trans rfl; have z4 := (blk_cell hbox 4).trans rfl; have HB := Lib.hid hb; obtain ⟨A0, c0, A1, c1, hI1, hI2, hI3⟩ := HI.out; have y0 := (blk_cell (blk_below hI1 hb) 0).trans rfl; have y1 := (blk_cell (blk_below hI1 hb) 1).trans rfl; obtain ⟨A2, c2, A3, c3, hC0, hC1, hC2, hC3, hC4, hC5⟩ := HC.out; replace hC0 := pw_cell_below hb hC0; replace hC2 := pw_cell_below hb hC2; clear hC1 hC3 hC4 hC5 hI1 hI2 hI3 hbox hb HI HC) | (go_at_call 27; refine (in_c _ _ _ _).mono ?_; rintro e w' ⟨rfl, rfl⟩))
  go_ret
  exact ⟨rfl, HB.out⟩

set_option maxHeartbeats 4000000 in
theorem num22 (g : Nat) (p : Addr) (l0 : List (List Bool)) (l1 : List S53) (a2 : Int) (c : S53) (f1 f2 f3 f4 : Int) (w : World) (hI : MemI w g l0 l1 a2) (hC : MemC w p c) : Calls Try.prog 55 #[.pointer (some ⟨g, 0, none⟩), .pointer (some p), .agg #[.int .i64 22, .int .i64 f1, .int .i64 f2, .int .i64 f3, .int .i64 f4]] w (Says (inB f4 0 3) w) := by
  have HI := Lib.hid hI
  have HC := Lib.hid hC
  have hu68 := Try.underlying68
  clear hI hC
  go_enter Try.func55, Try.ntmps55
  go_wp2_with (first | ((with_reducible refine gate_dst (N := 5) rfl ?_); refine box_event ?hg (N := 5) ?hd (cs := #[.int .i64 22, .int .i64 f1, .int .i64 f2, .int .i64 f3, .int .i64 f4]) (t := 68) ?hr ?_; (case hd => rfl); (case hg => rfl); (case hr => first | (go_simp; done) | (go_simp; rfl)); intro gb hg w6 hbox hb; clear hg; have z0 := (blk_cell hbox 0).trans rfl; have z4 := (blk_cell hbox 4).trans rfl; have HB := Lib.hid hb; obtain ⟨A0, c0, A1, c1, hI1, hI2, hI3⟩ := HI.out; have y0 := (blk_cell (blk_below hI1 hb) 0).trans rfl; have y1 := (blk_cell (blk_below hI1 hb) 1).trans rfl; obtain ⟨A2, c2, A3, c3, hC0, hC1, hC2, hC3, hC4, hC5⟩ := HC.out; replace hC0 := pw_cell_below hb hC0; replace hC2 := pw_cell_below hb hC2; clear hC1 hC3 hC4 hC5 hI1 hI2 hI3 hbox hb HI HC) | (go_at_call 27; refine (in_c _ _ _ _).mono ?_; rintro e w' ⟨rfl, rfl⟩))
  go_ret
  exact ⟨rfl, HB.out⟩

set_option maxHeartbeats 4000000 in
theorem num23 (g : Nat) (p : Addr) (l0 : List (List Bool)) (l1 : List S53) (a2 : Int) (c : S53) (f1 f2 f3 f4 : Int) (w : World) (hI : MemI w g l0 l1 a2) (hC : MemC w p c) : Calls Try.prog 55 #[.pointer (some ⟨g, 0, none⟩), .pointer (some p), .agg #[.int .i64 23, .int .i64 f1, .int .i64 f2, .int .i64 f3, .int .i64 f4]] w (Says (inB f4 0 (wrap64 ((l1.length : Int) - 1))) w) := by
  have HI := Lib.hid hI
  have HC := Lib.hid hC
  have hu68 := Try.underlying68
  clear hI hC
  go_enter Try.func55, Try.ntmps55
  go_wp2_with (first | ((with_reducible refine gate_dst (N := 5) rfl ?_); refine box_event ?hg (N := 5) ?hd (cs := #[.int .i64 23, .int .i64 f1, .int .i64 f2, .int .i64 f3, .int .i64 f4]) (t := 68) ?hr ?_; (case hd => rfl); (case hg => rfl); (case hr => first | (go_simp; done) | (go_simp; rfl)); intro gb hg w6 hbox hb; clear hg; have z0 := (blk_cell hbox 0).trans rfl; have z4 := (blk_cell hbox 4).trans rfl; have HB := Lib.hid hb; obtain ⟨A0, c0, A1, c1, hI1, hI2, hI3⟩ := HI.out; have y0 := (blk_cell (blk_below hI1 hb) 0).trans rfl; have y1 := (blk_cell (blk_below hI1 hb) 1).trans rfl; obtain ⟨A2, c2, A3, c3, hC0, hC1, hC2, hC3, hC4, hC5⟩ := HC.out; replace hC0 := pw_cell_below hb hC0; replace hC2 := pw_cell_below hb hC2; clear hC1 hC3 hC4 hC5 hI1 hI2 hI3 hbox hb HI HC) | (go_at_call 27; refine (in_c _ _ _ _).mono ?_; rintro e w' ⟨rfl, rfl⟩))
  go_quiet ((go_at_call 27; exact Calls.quiet_of_same (in_q _ _ _ _)))
  all_goals go_wp2
  all_goals go_ret
  all_goals exact ⟨rfl, by first | exact HB.out | exact pw_below_drewN HB.out _ | exact below_drew HB.out⟩

set_option maxHeartbeats 4000000 in
theorem num26 (g : Nat) (p : Addr) (l0 : List (List Bool)) (l1 : List S53) (a2 : Int) (c : S53) (f1 f2 f3 f4 : Int) (w : World) (hI : MemI w g l0 l1 a2) (hC : MemC w p c) : Calls Try.prog 55 #[.pointer (some ⟨g, 0, none⟩), .pointer (some p), .agg #[.int .i64 26, .int .i64 f1, .int .i64 f2, .int .i64 f3, .int .i64 f4]] w (Says (inB f4 0 (wrap64 ((c.f2.length : Int) - 1))) w) := by
  have HI := Lib.hid hI
  have HC := Lib.hid hC
  have hu68 := Try.underlying68
  clear hI hC
  go_enter Try.func55, Try.ntmps55
  go_wp2_with (first | ((with_reducible refine gate_dst (N := 5) rfl ?_); refine box_event ?hg (N := 5) ?hd (cs := #[.int .i64 26, .int .i64 f1, .int .i64 f2, .int .i64 f3, .int .i64 f4]) (t := 68) ?hr ?_; (case hd => rfl); (case hg => rfl); (case hr => first | (go_simp; done) | (go_simp; rfl)); intro gb hg w6 hbox hb; clear hg; have z0 := (blk_cell hbox 0).trans rfl; have z4 := (blk_cell hbox 4).trans rfl; have HB := Lib.hid hb; obtain ⟨A0, c0, A1, c1, hI1, hI2, hI3⟩ := HI.out; have y0 := (blk_cell (blk_below hI1 hb) 0).trans rfl; have y1 := (blk_cell (blk_below hI1 hb) 1).trans rfl; obtain ⟨A2, c2, A3, c3, hC0, hC1, hC2, hC3, hC4, hC5⟩ := HC.out; replace hC0 := pw_cell_below hb hC0; replace hC2 := pw_cell_below hb hC2; clear hC1 hC3 hC4 hC5 hI1 hI2 hI3 hbox hb HI HC) | (go_at_call 27; refine (in_c _ _ _ _).mono ?_; rintro e w' ⟨rfl, rfl⟩))
  go_quiet ((go_at_call 27; exact Calls.quiet_of_same (in_q _ _ _ _)))
  all_goals go_wp2
  all_goals go_ret
  all_goals exact ⟨rfl, by first | exact HB.out | exact pw_below_drewN HB.out _ | exact below_drew HB.out⟩

set_option maxHeartbeats 4000000 in
theorem num27 (g : Nat) (p : Addr) (l0 : List (List Bool)) (l1 : List S53) (a2 : Int) (c : S53) (f1 f2 f3 f4 : Int) (w : World) (hI : MemI w g l0 l1 a2) (hC : MemC w p c) : Calls Try.prog 55 #[.pointer (some ⟨g, 0, none⟩), .pointer (some p), .agg #[.int .i64 27, .int .i64 f1, .int .i64 f2, .int .i64 f3, .int .i64 f4]] w (Says (inB f4 0 (wrap64 ((c.f2.length : Int) - 1))) w) := by
  have HI := Lib.hid hI
  have HC := Lib.hid hC
  have hu68 := Try.underlying68
  clear hI hC
  go_enter Try.func55, Try.ntmps55
  go_wp2_with (first | ((with_reducible refine gate_dst (N := 5) rfl ?_); refine box_event ?hg (N := 5) ?hd (cs := #[.int .i64 27, .int .i64 f1, .int .i64 f2, .int .i64 f3, .int .i64 f4]) (t := 68) ?hr ?_; (case hd => rfl); (case hg => rfl); (case hr => first | (go_simp; done) | (go_simp; rfl)); intro gb hg w6 hbox hb; clear hg; have z0 := (blk_cell hbox 0).trans rfl; have z4 := (blk_cell hbox 4).trans rfl; have HB := Lib.hid hb; obtain ⟨A0, c0, A1, c1, hI1, hI2, hI3⟩ := HI.out; have y0 := (blk_cell (blk_below hI1 hb) 0).trans rfl; have y1 := (blk_cell (blk_below hI1 hb) 1).trans rfl; obtain ⟨A2, c2, A3, c3, hC0, hC1, hC2, hC3, hC4, hC5⟩ := HC.out; replace hC0 := pw_cell_below hb hC0; replace hC2 := pw_cell_below hb hC2; clear hC1 hC3 hC4 hC5 hI1 hI2 hI3 hbox hb HI HC) | (go_at_call 27; refine (in_c _ _ _ _).mono ?_; rintro e w' ⟨rfl, rfl⟩))
  go_quiet ((go_at_call 27; exact Calls.quiet_of_same (in_q _ _ _ _)))
  all_goals go_wp2
  all_goals go_ret
  all_goals exact ⟨rfl, by first | exact HB.out | exact pw_below_drewN HB.out _ | exact below_drew HB.out⟩

set_option maxHeartbeats 4000000 in
theorem numElse (g : Nat) (p : Addr) (l0 : List (List Bool)) (l1 : List S53) (a2 : Int) (c : S53) (f0 f1 f2 f3 f4 : Int) (b0 : (f0 == 0) = false) (b2 : (f0 == 2) = false) (b3 : (f0 == 3) = false) (b4 : (f0 == 4) = false) (b5 : (f0 == 5) = false) (b10 : (f0 == 10) = false) (b11 : (f0 == 11) = false) (b16 : (f0 == 16) = false) (b17 : (f0 == 17) = false) (b21 : (f0 == 21) = false) (b24 : (f0 == 24) = false) (b22 : (f0 == 22) = false) (b23 : (f0 == 23) = false) (b26 : (f0 == 26) = false) (b27 : (f0 == 27) = false) (w : World) (hI : MemI w g l0 l1 a2) (hC : MemC w p c) : Calls Try.prog 55 #[.pointer (some ⟨g, 0, none⟩), .pointer (some p), .agg #[.int .i64 f0, .int .i64 f1, .int .i64 f2, .int .i64 f3, .int .i64 f4]] w (Says (f4 == 0) w) := by
  have HI := Lib.hid hI
  have HC := Lib.hid hC
  have hu68 := Try.underlying68
  clear hI hC
  go_enter Try.func55, Try.ntmps55
  go_wp2_with (first | ((with_reducible refine gate_dst (N := 5) rfl ?_); refine box_event ?hg (N := 5) ?hd (cs := #[.int .i64 f0, .int .i64 f1, .int .i64 f2, .int .i64 f3, .int .i64 f4]) (t := 68) ?hr ?_; (case hd => rfl); (case hg => rfl); (case hr => first | (go_simp; done) | (go_simp; rfl)); intro gb hg w6 hbox hb; clear hg; have z0 := (blk_cell hbox 0).trans rfl; have z4 := (blk_cell hbox 4).trans rfl; have HB := Lib.hid hb; obtain ⟨A0, c0, A1, c1, hI1, hI2, hI3⟩ := HI.out; have y0 := (blk_cell (blk_below hI1 hb) 0).trans rfl; have y1 := (blk_cell (blk_below hI1 hb) 1).trans rfl; obtain ⟨A2, c2, A3, c3, hC0, hC1, hC2, hC3, hC4, hC5⟩ := HC.out; replace hC0 := pw_cell_below hb hC0; replace hC2 := pw_cell_below hb hC2; clear hC1 hC3 hC4 hC5 hI1 hI2 hI3 hbox hb HI HC) | (go_at_call 27; refine (in_c _ _ _ _).mono ?_; rintro e w' ⟨rfl, rfl⟩))
  go_ret
  exact ⟨rfl, HB.out⟩

theorem number (g : Nat) (p : Addr) (l0 : List (List Bool)) (l1 : List S53) (a2 : Int) (c : S53) (f0 f1 f2 f3 f4 : Int) (w : World) (hI : MemI w g l0 l1 a2) (hC : MemC w p c) : Calls Try.prog 55 #[.pointer (some ⟨g, 0, none⟩), .pointer (some p), .agg #[.int .i64 f0, .int .i64 f1, .int .i64 f2, .int .i64 f3, .int .i64 f4]] w (Says (numOk f0 f4 c.f0 c.f2.length l0.length l1.length) w) := by
  by_cases h0 : f0 = 0
  · subst h0; exact num0 g p l0 l1 a2 c f1 f2 f3 f4 w hI hC
  by_cases h2 : f0 = 2
  · subst h2; exact num2 g p l0 l1 a2 c f1 f2 f3 f4 w hI hC
  by_cases h3 : f0 = 3
  · subst h3; exact num3 g p l0 l1 a2 c f1 f2 f3 f4 w hI hC
  by_cases h4 : f0 = 4
  · subst h4; exact num4 g p l0 l1 a2 c f1 f2 f3 f4 w hI hC
  by_cases h5 : f0 = 5
  · subst h5; exact num5 g p l0 l1 a2 c f1 f2 f3 f4 w hI hC
  by_cases h10 : f0 = 10
  · subst h10; exact num10 g p l0 l1 a2 c f1 f2 f3 f4 w hI hC
  by_cases h11 : f0 = 11
  · subst h11; exact num11 g p l0 l1 a2 c f1 f2 f3 f4 w hI hC
  by_cases h16 : f0 = 16
  · subst h16; exact num16 g p l0 l1 a2 c f1 f2 f3 f4 w hI hC
  by_cases h17 : f0 = 17
  · subst h17; exact num17 g p l0 l1 a2 c f1 f2 f3 f4 w hI hC
  by_cases h21 : f0 = 21
  · subst h21; exact num21 g p l0 l1 a2 c f1 f2 f3 f4 w hI hC
  by_cases h24 : f0 = 24
  · subst h24; exact num24 g p l0 l1 a2 c f1 f2 f3 f4 w hI hC
  by_cases h22 : f0 = 22
  · subst h22; exact num22 g p l0 l1 a2 c f1 f2 f3 f4 w hI hC
  by_cases h23 : f0 = 23
  · subst h23; exact num23 g p l0 l1 a2 c f1 f2 f3 f4 w hI hC
  by_cases h26 : f0 = 26
  · subst h26; exact num26 g p l0 l1 a2 c f1 f2 f3 f4 w hI hC
  by_cases h27 : f0 = 27
  · subst h27; exact num27 g p l0 l1 a2 c f1 f2 f3 f4 w hI hC
  have e : numOk f0 f4 c.f0 c.f2.length l0.length l1.length = (f4 == 0) := by unfold numOk; rw [if_neg h0, if_neg h2, if_neg h3, if_neg h4, if_neg h5, if_neg h10, if_neg h11, if_neg h16, if_neg h17, if_neg h21, if_neg h24, if_neg h22, if_neg h23, if_neg h26, if_neg h27]
  rw [e]
  exact numElse g p l0 l1 a2 c f0 f1 f2 f3 f4 (beq_eq_false_iff_ne.2 h0) (beq_eq_false_iff_ne.2 h2) (beq_eq_false_iff_ne.2 h3) (beq_eq_false_iff_ne.2 h4) (beq_eq_false_iff_ne.2 h5) (beq_eq_false_iff_ne.2 h10) (beq_eq_false_iff_ne.2 h11) (beq_eq_false_iff_ne.2 h16) (beq_eq_false_iff_ne.2 h17) (beq_eq_false_iff_ne.2 h21) (beq_eq_false_iff_ne.2 h24) (beq_eq_false_iff_ne.2 h22) (beq_eq_false_iff_ne.2 h23) (beq_eq_false_iff_ne.2 h26) (beq_eq_false_iff_ne.2 h27) w hI hC

end Go.Proofs.Ytkfeoilnhpfknaa.ImFnExactImageRead
