/- Contracts of isReg and of the literal that mapsOk hands to slices.EqualFunc. -/
import Derived.Test.YtkfeoilnhpfknaaImbFnExactImageRead
namespace Go.Proofs.Ytkfeoilnhpfknaa.ImFnExactImageRead
open Go.RowKit Go.Proofs.Ytkfeoilnhpfknaa.QFnExactImageRead Go.Proofs.YtkfeoilnhpfknaaW.PrintWords Go.Proofs.YtkfeoilnhpfknaaW.PrintLast

theorem reg_c (a : Int) (w : World) : Calls Try.prog 54 #[.int .i64 a] w fun e w' => e = .returned (.bool (inB a 0 15)) ∧ w = w' := by
  go_enter Try.func54, Try.ntmps54
  go_wp2_with (go_at_call 27; refine (in_c _ _ _ _).mono ?_; rintro e w' ⟨rfl, rfl⟩)
  go_ret
  exact ⟨rfl, rfl⟩

theorem in_w (a b c : Int) (v : Bool) (h : inB a b c = v) (w : World) : Calls Try.prog 27 #[.int .i64 a, .int .i64 b, .int .i64 c] w fun e w' => e = .returned (.bool v) ∧ w = w' := by
  rw [← h]; exact in_c _ _ _ _

/-- The slots of a map: each in the frame, each above the one before. -/
def SlotsOk (frame : Int) (l : List Int) : Prop := ∀ j : Nat, j < l.length → inB (rd l j) 3 (wrap64 (frame - 1)) = true ∧ (0 < j → rd l ((j : Int) - 1) < rd l j)
def MapOk (frame : Int) (m : S72) (q : Int) : Prop := SlotsOk frame m.f1 ∧ m.f0 = q
def Tells (P : Prop) (w : World) (e : Ending) (w' : World) : Prop := ∃ b : Bool, e = .returned (.bool b) ∧ (b = true ↔ P) ∧ Below w.heap.size w w'
theorem tells_no {P : Prop} {w w' : World} (h : ¬ P) (hb : Below w.heap.size w w') : Tells P w (.returned (.bool false)) w' := ⟨false, rfl, by simp [h], hb⟩
theorem tells_is {P : Prop} {w w' : World} {b : Bool} (h : b = true ↔ P) (hb : Below w.heap.size w w') : Tells P w (.returned (.bool b)) w' := ⟨b, rfl, h, hb⟩

set_option maxHeartbeats 4000000 in
set_option maxRecDepth 100000 in
theorem one_map (A : Option Addr) (c0 : Nat) (m : S72) (q : Int) (gb : Nat) (p : Addr) (c : S53) (w : World) (hl : m.f1.length ≤ 1099511627776) (hr : Kd.C (Kd.int .i64) w A m.f1.length m.f1) (hb : w.cell? ⟨gb, 0, none⟩ = some (.pointer (some p))) (hC : MemC w p c) :
    Calls Try.prog 76 #[.agg #[.int .i64 m.f0, .slice A m.f1.length c0], .int .i64 q, .pointer (some ⟨gb, 0, none⟩)] w (Tells (MapOk c.f0 m q) w) := by
  have HR := Lib.hid hr
  have HC := Lib.hid hC
  have HP := Lib.hid hb
  have hu72 := Try.underlying72
  clear hr hC hb
  go_enter Try.func76, Try.ntmps76
  go_upto_block 0 with (first | ((with_reducible refine gate_dst (N := 3) rfl ?_); refine box_event ?hg (N := 3) ?hd (cs := #[.int .i64 m.f0, .slice A m.f1.length c0]) (t := 72) ?hr ?_; (case hd => rfl); (case hg => rfl); (case hr => first | (go_simp; done) | (go_simp; rfl)); intro gx hg w6 hbox hb; clear hg; have z0 := (blk_cell hbox 0).trans rfl; have z1 := (blk_cell hbox 1).trans rfl; have HB := Lib.hid hb; have HR6 := Lib.hid (Kd.C_below HR.out hb); have yp := pw_cell_below hb HP.out; obtain ⟨A2, c2, A3, c3, hC0, hC1, hC2, hC3, hC4, hC5⟩ := HC.out; replace hC0 := pw_cell_below hb hC0; clear hC1 hC2 hC3 hC4 hC5 hbox hb HC HP HR))
  go_wp2
  go_loop [6, 7, 11] (fun v6 v7 v11 => ∃ i : Nat, v11 = .int .i64 i ∧ i ≤ m.f1.length ∧ Hid (∀ j : Nat, j < i → inB (rd m.f1 j) 3 (wrap64 (c.f0 - 1)) = true ∧ (0 < j → rd m.f1 ((j : Int) - 1) < rd m.f1 j))) (fun _ _ v11 => (m.f1.length - intOf v11).toNat)
  case atStart => exact ⟨0, rfl, by omega, Lib.hid (fun j hj => by omega)⟩
  case round =>
    obtain ⟨i, rfl, hi, HF⟩ := hrel
    by_cases hlt : i < m.f1.length
    · have p0 : (0 : Int) ≤ (i : Int) := by omega
      have q0 : (i : Int) < (m.f1.length : Int) := by omega
      obtain ⟨ad, e1, hx⟩ := Kd.at_int HR6.out i p0 q0
      subst e1
      rw [Int.toNat_natCast] at hx
      cases hin : inB (rd m.f1 i) 3 (wrap64 (c.f0 - 1))
      · have HN : Hid (¬ MapOk c.f0 m q) := Lib.hid (fun h => by have := (h.1 i hlt).1; rw [hin] at this; cases this)
        have HI := Lib.hid hin
        clear hin
        go_wp2_with (go_at_call 27; refine (in_w _ _ _ _ HI.out _).mono ?_; rintro e w' ⟨rfl, rfl⟩)
        go_ret
        exact tells_no HN.out HB.out
      · have HI := Lib.hid hin
        clear hin
        by_cases h0 : i = 0
        · have d1 : decide ((0 : Int) < (i : Int)) = false := decide_eq_false (by omega)
          have d2 : decide (0 < i) = false := decide_eq_false (by omega)
          have HF2 : Hid (∀ j : Nat, j < i + 1 → inB (rd m.f1 j) 3 (wrap64 (c.f0 - 1)) = true ∧ (0 < j → rd m.f1 ((j : Int) - 1) < rd m.f1 j)) := Lib.hid (fun j hj => by
            have : j = i := by omega
            subst this
            exact ⟨HI.out, fun h => by omega⟩)
          clear h0
          go_wp2_with (go_at_call 27; refine (in_w _ _ _ _ HI.out _).mono ?_; rintro e w' ⟨rfl, rfl⟩)
          go_round
          case rel => exact ⟨i + 1, by go_num, by omega, HF2⟩
          case measure => simp [intOf]; omega
        · have d1 : decide ((0 : Int) < (i : Int)) = true := decide_eq_true (by omega)
          have d2 : decide (0 < i) = true := decide_eq_true (by omega)
          have p1 : (0 : Int) ≤ (i : Int) - 1 := by omega
          have p2 : (1 : Int) ≤ (i : Int) := by omega
          have q1 : (i : Int) - 1 < (m.f1.length : Int) := by omega
          obtain ⟨ad2, e2, hx2⟩ := Kd.at_int HR6.out ((i : Int) - 1) p1 q1
          obtain rfl : ad = ad2 := Option.some.inj e2
          clear e2
          have hx3 : w6.cell? (ad.add (i - 1)) = some (.int .i64 (rd m.f1 ((i : Int) - 1))) := by
            have e : ((i : Int) - 1).toNat = i - 1 := by omega
            rw [e] at hx2; exact hx2
          by_cases hle : rd m.f1 i ≤ rd m.f1 ((i : Int) - 1)
          · have HN : Hid (¬ MapOk c.f0 m q) := Lib.hid (fun h => by have := (h.1 i hlt).2 (by omega); omega)
            go_wp2_with (go_at_call 27; refine (in_w _ _ _ _ HI.out _).mono ?_; rintro e w' ⟨rfl, rfl⟩)
            go_ret
            exact tells_no HN.out HB.out
          · have HF2 : Hid (∀ j : Nat, j < i + 1 → inB (rd m.f1 j) 3 (wrap64 (c.f0 - 1)) = true ∧ (0 < j → rd m.f1 ((j : Int) - 1) < rd m.f1 j)) := Lib.hid (fun j hj => by
              by_cases e : j = i
              · subst e; exact ⟨HI.out, fun _ => by omega⟩
              · exact HF.out j (by omega))
            go_wp2_with (go_at_call 27; refine (in_w _ _ _ _ HI.out _).mono ?_; rintro e w' ⟨rfl, rfl⟩)
            go_round
            case rel => exact ⟨i + 1, by go_num, by omega, HF2⟩
            case measure => simp [intOf]; omega
    · have HS : Hid (SlotsOk c.f0 m.f1) := Lib.hid (fun j hj => HF.out j (by omega))
      have HE : Hid ((m.f0 == q) = true ↔ MapOk c.f0 m q) := Lib.hid (by rw [beq_iff_eq]; exact ⟨fun h => ⟨HS.out, h⟩, fun h => h.2⟩)
      go_wp2
      go_ret
      exact tells_is HE.out HB.out

end Go.Proofs.Ytkfeoilnhpfknaa.ImFnExactImageRead
