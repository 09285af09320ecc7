/- The contract of spec.l11codeOk. -/
import Derived.Test.YtkfeoilnhpfknaaImgTFnExactImageRead
import Derived.Test.YtkfeoilnhpfknaaImoFnExactImageRead
import Derived.Deep.RegionHeldLaw
import Derived.Deep.DrawnRows
import Derived.BigQuiet
import Derived.Deep.QuietTactic
namespace Go.Proofs.Ytkfeoilnhpfknaa.ImFnExactImageRead
open Go.RowKit Go.Proofs.Ytkfeoilnhpfknaa.QFnExactImageRead Go.Proofs.YtkfeoilnhpfknaaW.PrintWords Go.Proofs.YtkfeoilnhpfknaaW.PrintLast
open Go.Proofs.Ytkfeoilnhpfknaa.ImgTFnExactImageRead (inB_iff ins_tells)
attribute [local go_sem ↓] Go.wp_at_zero Go.wp_at_succ
set_option linter.unusedSimpArgs false

theorem l11in_v (a n : Int) (v : Bool) (h : inB a 0 (n - 1) = v) (w : World) : Calls Try.prog 47 #[.int .i64 a, .int .i64 n] w fun e w' => e = .returned (.bool v) ∧ w = w' := by
  rw [← h]
  by_cases c : 0 ≤ a
  · have e : inB a 0 (n - 1) = decide (a < n) := by unfold inB; rw [if_pos c]; exact decide_eq_decide.2 (by omega)
    rw [e]
    clear e h
    go_enter Try.func47, Try.ntmps47
    go_wp2
    go_ret
    exact ⟨rfl, rfl⟩
  · have e : inB a 0 (n - 1) = false := if_neg c
    rw [e]
    clear e h
    go_enter Try.func47, Try.ntmps47
    go_wp2
    go_ret
    exact ⟨rfl, rfl⟩
theorem l11safe_v (f0 : Int) (v : Bool) (h : safeB f0 = v) (w : World) : Calls Try.prog 71 #[.int .i64 f0] w fun e w' => e = .returned (.bool v) ∧ w = w' := by
  rw [← h]
  clear h
  unfold safeB
  by_cases c : f0 = 10
  · subst c
    go_enter Try.func71, Try.ntmps71
    go_wp2
    go_ret
    exact ⟨rfl, rfl⟩
  by_cases d : f0 = 11
  · subst d
    go_enter Try.func71, Try.ntmps71
    go_wp2
    go_ret
    exact ⟨rfl, rfl⟩
  · rw [if_neg c, if_neg d]
    have e10 : (f0 == 10) = false := beq_eq_false_iff_ne.2 c
    have e11 : (f0 == 11) = false := beq_eq_false_iff_ne.2 d
    go_enter Try.func71, Try.ntmps71
    go_wp2
    go_ret
    exact ⟨rfl, rfl⟩

theorem ins_s (A0 : Option Addr) (c0 : Nat) (l0 : List (List Bool)) (A1 : Option Addr) (c1 : Nat) (l1 : List S53) (a2 : Int) (c : S53) (A2 : Option Addr) (c2 : Nat) (A3 : Option Addr) (c3 : Nat) (x : S68) (w : World) (hr0 : Kd.C (Kd.slice 4 Kd.bool) w A0 l0.length l0) (hc0 : l0.length ≤ c0) (hr1 : Kd.C k53 w A1 l1.length l1) (hc1 : l1.length ≤ c1) (hr2 : k68.C w A2 c.f2.length c.f2) (hc2 : c.f2.length ≤ c2) (hr3 : k72.C w A3 c.f3.length c.f3) (hc3 : c.f3.length ≤ c3)
    (hc : 3 ≤ c.f0 ∧ c.f0 ≤ 1000) (h0 : l0.length ≤ 1099511627776) (h1 : l1.length ≤ 1099511627776) (h2 : c.f2.length ≤ 1099511627776) :
    Calls Try.prog 70 #[.agg #[.slice A0 l0.length c0, .slice A1 l1.length c1, .int .i64 a2], .agg #[.int .i64 c.f0, .int .i64 c.f1, .slice A2 c.f2.length c2, .slice A3 c.f3.length c3], .agg #[.int .i64 x.f0, .int .i64 x.f1, .int .i64 x.f2, .int .i64 x.f3, .int .i64 x.f4]] w (Tells (InsOk l0.length l1.length c x) w) := by
  obtain ⟨r, hr, K, hK⟩ := ins_tells l0 l1 a2 c x hc h0 h1 h2
  refine (spec_l11insOk.calls K A0 c0 l0 A1 c1 l1 a2 c.f0 c.f1 A2 c2 c.f2 A3 c3 c.f3 x.f0 x.f1 x.f2 x.f3 x.f4 r w hr0 hc0 hr1 hc1 hr2 hc2 hr3 hc3 (hK K (Nat.le_refl _))).mono ?_
  rintro e w' ⟨rfl, hb⟩
  exact ⟨r, rfl, hr, hb⟩

def SmallC (ns nc : Nat) (c : S53) : Prop := ns ≤ 1099511627776 ∧ nc ≤ 1099511627776 ∧ c.f2.length ≤ 1099511627776 ∧ c.f3.length ≤ 1099511627776 ∧ ∀ j : Nat, j < c.f3.length → (rd_T72 c.f3 j).f1.length ≤ 1099511627776

theorem safeTo_pre (ins : List S68) (i d : Nat) : ∃ t, safeTo ins (i + d) = safeTo ins i ++ t := by
  induction d with
  | zero => exact ⟨[], by rw [List.append_nil]; rfl⟩
  | succ d ih =>
    obtain ⟨t, ht⟩ := ih
    rw [← Nat.add_assoc, safeTo]
    split
    · exact ⟨t ++ [((i + d : Nat) : Int)], by rw [ht, List.append_assoc]⟩
    · exact ⟨t, ht⟩
theorem rd_pre (a b : List Int) (j : Nat) (h : j < a.length) : rd (a ++ b) j = rd a j := by
  unfold rd
  rw [Int.toNat_natCast, List.getD_eq_getElem?_getD, List.getD_eq_getElem?_getD, List.getElem?_append_left h]
theorem rd_at (a b : List Int) (x : Int) : rd (a ++ x :: b) a.length = x := by
  unfold rd
  rw [Int.toNat_natCast, List.getD_eq_getElem?_getD, List.getElem?_append_right (Nat.le_refl _), Nat.sub_self]
  rfl
/-- What the loop has found: so far the maps are right. -/
def SoFar (c : S53) (i : Nat) : Prop := (safeTo c.f2 i).length ≤ c.f3.length ∧ ∀ j : Nat, j < (safeTo c.f2 i).length → MapOk c.f0 (rd_T72 c.f3 j) (rd (safeTo c.f2 i) j)
theorem safe_here {c : S53} {i : Nat} (hi : i < c.f2.length) (hs : safeB (rd_T68 c.f2 i).f0 = true) (hM : MapsOk c) : (safeTo c.f2 i).length < c.f3.length ∧ MapOk c.f0 (rd_T72 c.f3 (safeTo c.f2 i).length) i := by
  have es : safeTo c.f2 (i + 1) = safeTo c.f2 i ++ [(i : Int)] := by rw [safeTo, if_pos hs]
  obtain ⟨u, hu⟩ := safeTo_pre c.f2 (i + 1) (c.f2.length - (i + 1))
  rw [show i + 1 + (c.f2.length - (i + 1)) = c.f2.length from by omega, es, List.append_assoc] at hu
  have hu : safeTo c.f2 c.f2.length = safeTo c.f2 i ++ (i : Int) :: u := hu
  have hlen : (safeTo c.f2 i).length + 1 ≤ (safeTo c.f2 c.f2.length).length := by rw [hu, List.length_append, List.length_cons]; omega
  have hl : (safeTo c.f2 i).length < c.f3.length := by have := hM.1; omega
  have h := hM.2 _ hl
  rw [hu, rd_at] at h
  exact ⟨hl, h⟩
theorem SoFar.step {c : S53} {i : Nat} (h : SoFar c i) (hs : safeB (rd_T68 c.f2 i).f0 = true) (hl : (safeTo c.f2 i).length < c.f3.length) (hm : MapOk c.f0 (rd_T72 c.f3 (safeTo c.f2 i).length) i) : SoFar c (i + 1) ∧ (safeTo c.f2 (i + 1)).length = (safeTo c.f2 i).length + 1 := by
  have es : safeTo c.f2 (i + 1) = safeTo c.f2 i ++ [(i : Int)] := by rw [safeTo, if_pos hs]
  refine ⟨⟨by rw [es, List.length_append, List.length_singleton]; omega, fun j hj => ?_⟩, by rw [es, List.length_append, List.length_singleton]⟩
  rw [es, List.length_append, List.length_singleton] at hj
  rw [es]
  by_cases e : j = (safeTo c.f2 i).length
  · subst e; rw [rd_at]; exact hm
  · rw [rd_pre _ _ _ (by omega)]; exact h.2 j (by omega)
theorem SoFar.skip {c : S53} {i : Nat} (h : SoFar c i) (hs : safeB (rd_T68 c.f2 i).f0 = false) : SoFar c (i + 1) ∧ (safeTo c.f2 (i + 1)).length = (safeTo c.f2 i).length := by
  have es : safeTo c.f2 (i + 1) = safeTo c.f2 i := by rw [safeTo, hs]; rfl
  unfold SoFar
  rw [es]
  exact ⟨h, rfl⟩

theorem keep12 {w w1 : World} {gb g1 t u : Nat} {ad : Addr} {a b c d e f g h0 h1 h2 h3 h4 : Value} (h : w1.heap[gb]? = some (.cells #[a, b, c] t (0, 0))) (k : w1.heap[g1]? = some (.cells #[d, e, f, g] u (0, 0)))
    (m : w.cell? ad = some h0 ∧ w.cell? ⟨ad.block, ad.off + 1, none⟩ = some h1 ∧ w.cell? ⟨ad.block, ad.off + 2, none⟩ = some h2 ∧ w.cell? ⟨ad.block, ad.off + 3, none⟩ = some h3 ∧ w.cell? ⟨ad.block, ad.off + 4, none⟩ = some h4) (hb : Below w.heap.size w w1) :
    w1.cell? ⟨gb, 0, none⟩ = some a ∧ w1.cell? ⟨gb, 1, none⟩ = some b ∧ w1.cell? ⟨gb, 2, none⟩ = some c ∧ w1.cell? ⟨g1, 0, none⟩ = some d ∧ w1.cell? ⟨g1, 1, none⟩ = some e ∧ w1.cell? ⟨g1, 2, none⟩ = some f ∧ w1.cell? ⟨g1, 3, none⟩ = some g ∧ w1.cell? ad = some h0 ∧ w1.cell? ⟨ad.block, ad.off + 1, none⟩ = some h1 ∧ w1.cell? ⟨ad.block, ad.off + 2, none⟩ = some h2 ∧ w1.cell? ⟨ad.block, ad.off + 3, none⟩ = some h3 ∧ w1.cell? ⟨ad.block, ad.off + 4, none⟩ = some h4 :=
  ⟨(three h).1, (three h).2.1, (three h).2.2, (four k).1, (four k).2.1, (four k).2.2.1, (four k).2.2.2, pw_cell_below hb m.1, pw_cell_below hb m.2.1, pw_cell_below hb m.2.2.1, pw_cell_below hb m.2.2.2.1, pw_cell_below hb m.2.2.2.2⟩

set_option maxHeartbeats 8000000 in
set_option maxRecDepth 100000 in
theorem code_s (A0 : Option Addr) (c0 : Nat) (l0 : List (List Bool)) (A1 : Option Addr) (c1 : Nat) (l1 : List S53) (a2 : Int) (c : S53) (A2 : Option Addr) (c2 : Nat) (A3 : Option Addr) (c3 : Nat) (w : World) (hr0 : Kd.C (Kd.slice 4 Kd.bool) w A0 l0.length l0) (hc0 : l0.length ≤ c0) (hr1 : Kd.C k53 w A1 l1.length l1) (hc1 : l1.length ≤ c1) (hr2 : k68.C w A2 c.f2.length c.f2) (hc2 : c.f2.length ≤ c2) (hr3 : k72.C w A3 c.f3.length c.f3) (hc3 : c.f3.length ≤ c3) (hs : SmallC l0.length l1.length c) :
    Calls Try.prog 48 #[.agg #[.slice A0 l0.length c0, .slice A1 l1.length c1, .int .i64 a2], .agg #[.int .i64 c.f0, .int .i64 c.f1, .slice A2 c.f2.length c2, .slice A3 c.f3.length c3]] w (Tells (CodeOk l0.length l1.length c) w) := by
  have hu30 := Try.underlying30
  have hu53 := Try.underlying53
  have hu68 := Try.underlying68
  have HR0 := Lib.hid hr0
  have HR1 := Lib.hid hr1
  have HR2 := Lib.hid hr2
  have HR3 := Lib.hid hr3
  have HCs := Lib.hid (And.intro hc0 (And.intro hc1 (And.intro hc2 hc3)))
  obtain ⟨hn0, hn1, hn2, hn3, hn4⟩ := hs
  have HN4 := Lib.hid hn4
  clear hr0 hr1 hr2 hr3 hc0 hc1 hc2 hc3 hn4
  obtain ⟨q, hq⟩ : ∃ q, IntKind.i64.wrap (3 + c.f1) = q := ⟨_, rfl⟩
  cases hA : inB c.f1 0 (5 - 1)
  · have HN : Hid (¬ CodeOk l0.length l1.length c) := Lib.hid (fun h => by have h1 : inB c.f1 0 (5 - 1) = true := h.1.1; rw [hA] at h1; cases h1)
    have HA := Lib.hid hA
    clear hA
    go_enter Try.func48, Try.ntmps48
    go_wp2_with (first | ((with_reducible refine gate_dst (N := 2) rfl ?_); refine box_event ?hg (N := 2) ?hd (cs := #[.slice A0 l0.length c0, .slice A1 l1.length c1, .int .i64 a2]) (t := 30) ?hr ?_; (case hd => rfl); (case hg => rfl); (case hr => first | (go_simp; done) | (go_simp; rfl)); intro gb hg w5 hbox hb; clear hg; have HB5 := Lib.hid hb; have HX5 := Lib.hid hbox; clear hbox hb) | ((with_reducible refine gate_dst (N := 3) rfl ?_); refine box_event ?hg (N := 3) ?hd (cs := #[.int .i64 c.f0, .int .i64 c.f1, .slice A2 c.f2.length c2, .slice A3 c.f3.length c3]) (t := 53) ?hr ?_; (case hd => rfl); (case hg => rfl); (case hr => first | (go_simp; done) | (go_simp; rfl)); intro g1 hg w6 hbox hb; clear hg; have HB6 := Lib.hid (below_step HB5.out hb); have HX6 := Lib.hid (blk_below HX5.out hb); have HY6 := Lib.hid hbox; clear hb hbox HB5 HX5; have z0 := (blk_cell HY6.out 0).trans rfl; have z1 := (blk_cell HY6.out 1).trans rfl; have z2 := (blk_cell HY6.out 2).trans rfl; have z3 := (blk_cell HY6.out 3).trans rfl) | (go_at_call 47; refine (l11in_v _ 5 _ HA.out _).mono ?_; rintro e w7 ⟨rfl, rfl⟩))
    go_ret
    exact tells_no HN.out HB6.out
  have hA' := (inB_iff _ _ _).1 hA
  have hq3 : 3 ≤ q := by rw [← hq, i64_w]; unfold wrap64; omega
  clear hA'
  have HA := Lib.hid hA
  clear hA
  by_cases k2 : c.f0 < q
  · have HN : Hid (¬ CodeOk l0.length l1.length c) := Lib.hid (fun h => by have := (inB_iff _ _ _).1 h.1.2.1; rw [← i64_w, hq] at this; omega)
    have d2 : decide (c.f0 < q) = true := decide_eq_true k2
    clear k2
    go_enter Try.func48, Try.ntmps48
    go_wp2_with (first | ((with_reducible refine gate_dst (N := 2) rfl ?_); refine box_event ?hg (N := 2) ?hd (cs := #[.slice A0 l0.length c0, .slice A1 l1.length c1, .int .i64 a2]) (t := 30) ?hr ?_; (case hd => rfl); (case hg => rfl); (case hr => first | (go_simp; done) | (go_simp; rfl)); intro gb hg w5 hbox hb; clear hg; have HB5 := Lib.hid hb; have HX5 := Lib.hid hbox; clear hbox hb) | ((with_reducible refine gate_dst (N := 3) rfl ?_); refine box_event ?hg (N := 3) ?hd (cs := #[.int .i64 c.f0, .int .i64 c.f1, .slice A2 c.f2.length c2, .slice A3 c.f3.length c3]) (t := 53) ?hr ?_; (case hd => rfl); (case hg => rfl); (case hr => first | (go_simp; done) | (go_simp; rfl)); intro g1 hg w6 hbox hb; clear hg; have HB6 := Lib.hid (below_step HB5.out hb); have HX6 := Lib.hid (blk_below HX5.out hb); have HY6 := Lib.hid hbox; clear hb hbox HB5 HX5; have z0 := (blk_cell HY6.out 0).trans rfl; have z1 := (blk_cell HY6.out 1).trans rfl; have z2 := (blk_cell HY6.out 2).trans rfl; have z3 := (blk_cell HY6.out 3).trans rfl) | (go_at_call 47; refine (l11in_v _ 5 _ HA.out _).mono ?_; rintro e w7 ⟨rfl, rfl⟩))
    go_ret
    exact tells_no HN.out HB6.out
  have k2' := Int.not_lt.1 k2
  have d2 : decide (c.f0 < q) = false := decide_eq_false k2
  clear k2
  by_cases k3 : 1000 < c.f0
  · have HN : Hid (¬ CodeOk l0.length l1.length c) := Lib.hid (fun h => by have := (inB_iff _ _ _).1 h.1.2.1; omega)
    have d3 : decide (1000 < c.f0) = true := decide_eq_true k3
    clear k3
    go_enter Try.func48, Try.ntmps48
    go_wp2_with (first | ((with_reducible refine gate_dst (N := 2) rfl ?_); refine box_event ?hg (N := 2) ?hd (cs := #[.slice A0 l0.length c0, .slice A1 l1.length c1, .int .i64 a2]) (t := 30) ?hr ?_; (case hd => rfl); (case hg => rfl); (case hr => first | (go_simp; done) | (go_simp; rfl)); intro gb hg w5 hbox hb; clear hg; have HB5 := Lib.hid hb; have HX5 := Lib.hid hbox; clear hbox hb) | ((with_reducible refine gate_dst (N := 3) rfl ?_); refine box_event ?hg (N := 3) ?hd (cs := #[.int .i64 c.f0, .int .i64 c.f1, .slice A2 c.f2.length c2, .slice A3 c.f3.length c3]) (t := 53) ?hr ?_; (case hd => rfl); (case hg => rfl); (case hr => first | (go_simp; done) | (go_simp; rfl)); intro g1 hg w6 hbox hb; clear hg; have HB6 := Lib.hid (below_step HB5.out hb); have HX6 := Lib.hid (blk_below HX5.out hb); have HY6 := Lib.hid hbox; clear hb hbox HB5 HX5; have z0 := (blk_cell HY6.out 0).trans rfl; have z1 := (blk_cell HY6.out 1).trans rfl; have z2 := (blk_cell HY6.out 2).trans rfl; have z3 := (blk_cell HY6.out 3).trans rfl) | (go_at_call 47; refine (l11in_v _ 5 _ HA.out _).mono ?_; rintro e w7 ⟨rfl, rfl⟩))
    go_ret
    exact tells_no HN.out HB6.out
  have k3' := Int.not_lt.1 k3
  have d3 : decide (1000 < c.f0) = false := decide_eq_false k3
  clear k3
  by_cases k4 : (c.f2.length : Int) < 1
  · have HN : Hid (¬ CodeOk l0.length l1.length c) := Lib.hid (fun h => by have := (inB_iff _ _ _).1 h.1.2.2; omega)
    have d4 : decide ((c.f2.length : Int) < 1) = true := decide_eq_true k4
    clear k4
    go_enter Try.func48, Try.ntmps48
    go_wp2_with (first | ((with_reducible refine gate_dst (N := 2) rfl ?_); refine box_event ?hg (N := 2) ?hd (cs := #[.slice A0 l0.length c0, .slice A1 l1.length c1, .int .i64 a2]) (t := 30) ?hr ?_; (case hd => rfl); (case hg => rfl); (case hr => first | (go_simp; done) | (go_simp; rfl)); intro gb hg w5 hbox hb; clear hg; have HB5 := Lib.hid hb; have HX5 := Lib.hid hbox; clear hbox hb) | ((with_reducible refine gate_dst (N := 3) rfl ?_); refine box_event ?hg (N := 3) ?hd (cs := #[.int .i64 c.f0, .int .i64 c.f1, .slice A2 c.f2.length c2, .slice A3 c.f3.length c3]) (t := 53) ?hr ?_; (case hd => rfl); (case hg => rfl); (case hr => first | (go_simp; done) | (go_simp; rfl)); intro g1 hg w6 hbox hb; clear hg; have HB6 := Lib.hid (below_step HB5.out hb); have HX6 := Lib.hid (blk_below HX5.out hb); have HY6 := Lib.hid hbox; clear hb hbox HB5 HX5; have z0 := (blk_cell HY6.out 0).trans rfl; have z1 := (blk_cell HY6.out 1).trans rfl; have z2 := (blk_cell HY6.out 2).trans rfl; have z3 := (blk_cell HY6.out 3).trans rfl) | (go_at_call 47; refine (l11in_v _ 5 _ HA.out _).mono ?_; rintro e w7 ⟨rfl, rfl⟩))
    go_ret
    exact tells_no HN.out HB6.out
  have k4' := Int.not_lt.1 k4
  have d4 : decide ((c.f2.length : Int) < 1) = false := decide_eq_false k4
  clear k4
  by_cases k5 : 6000 < (c.f2.length : Int)
  · have HN : Hid (¬ CodeOk l0.length l1.length c) := Lib.hid (fun h => by have := (inB_iff _ _ _).1 h.1.2.2; omega)
    have d5 : decide (6000 < (c.f2.length : Int)) = true := decide_eq_true k5
    clear k5
    go_enter Try.func48, Try.ntmps48
    go_wp2_with (first | ((with_reducible refine gate_dst (N := 2) rfl ?_); refine box_event ?hg (N := 2) ?hd (cs := #[.slice A0 l0.length c0, .slice A1 l1.length c1, .int .i64 a2]) (t := 30) ?hr ?_; (case hd => rfl); (case hg => rfl); (case hr => first | (go_simp; done) | (go_simp; rfl)); intro gb hg w5 hbox hb; clear hg; have HB5 := Lib.hid hb; have HX5 := Lib.hid hbox; clear hbox hb) | ((with_reducible refine gate_dst (N := 3) rfl ?_); refine box_event ?hg (N := 3) ?hd (cs := #[.int .i64 c.f0, .int .i64 c.f1, .slice A2 c.f2.length c2, .slice A3 c.f3.length c3]) (t := 53) ?hr ?_; (case hd => rfl); (case hg => rfl); (case hr => first | (go_simp; done) | (go_simp; rfl)); intro g1 hg w6 hbox hb; clear hg; have HB6 := Lib.hid (below_step HB5.out hb); have HX6 := Lib.hid (blk_below HX5.out hb); have HY6 := Lib.hid hbox; clear hb hbox HB5 HX5; have z0 := (blk_cell HY6.out 0).trans rfl; have z1 := (blk_cell HY6.out 1).trans rfl; have z2 := (blk_cell HY6.out 2).trans rfl; have z3 := (blk_cell HY6.out 3).trans rfl) | (go_at_call 47; refine (l11in_v _ 5 _ HA.out _).mono ?_; rintro e w7 ⟨rfl, rfl⟩))
    go_ret
    exact tells_no HN.out HB6.out
  have k5' := Int.not_lt.1 k5
  have d5 : decide (6000 < (c.f2.length : Int)) = false := decide_eq_false k5
  clear k5
  have hf0 : 3 ≤ c.f0 ∧ c.f0 ≤ 1000 := ⟨by omega, k3'⟩
  have HH : Hid (inB c.f1 0 4 = true ∧ inB c.f0 (wrap64 (3 + c.f1)) 1000 = true ∧ inB c.f2.length 1 6000 = true) := Lib.hid ⟨HA.out, (inB_iff _ _ _).2 (by rw [← i64_w, hq]; omega), (inB_iff _ _ _).2 (by omega)⟩
  go_enter Try.func48, Try.ntmps48
  go_wp2_with (first | ((with_reducible refine gate_dst (N := 2) rfl ?_); refine box_event ?hg (N := 2) ?hd (cs := #[.slice A0 l0.length c0, .slice A1 l1.length c1, .int .i64 a2]) (t := 30) ?hr ?_; (case hd => rfl); (case hg => rfl); (case hr => first | (go_simp; done) | (go_simp; rfl)); intro gb hg w5 hbox hb; clear hg; have HB5 := Lib.hid hb; have HX5 := Lib.hid hbox; clear hbox hb) | ((with_reducible refine gate_dst (N := 3) rfl ?_); refine box_event ?hg (N := 3) ?hd (cs := #[.int .i64 c.f0, .int .i64 c.f1, .slice A2 c.f2.length c2, .slice A3 c.f3.length c3]) (t := 53) ?hr ?_; (case hd => rfl); (case hg => rfl); (case hr => first | (go_simp; done) | (go_simp; rfl)); intro g1 hg w6 hbox hb; clear hg; have HB6 := Lib.hid (below_step HB5.out hb); have HX6 := Lib.hid (blk_below HX5.out hb); have HY6 := Lib.hid hbox; clear hb hbox HB5 HX5; have z0 := (blk_cell HY6.out 0).trans rfl; have z1 := (blk_cell HY6.out 1).trans rfl; have z2 := (blk_cell HY6.out 2).trans rfl; have z3 := (blk_cell HY6.out 3).trans rfl) | (go_at_call 47; refine (l11in_v _ 5 _ HA.out _).mono ?_; rintro e w7 ⟨rfl, rfl⟩))
  clear z0 z1 z2 z3 d2 d3 d4 d5 k2' k3' k4'
  go_loopw [5, 6] (fun v5 v6 wr => ∃ i n : Nat, v6 = .int .i64 i ∧ v5 = .int .i64 n ∧ n = (safeTo c.f2 i).length ∧ i ≤ c.f2.length ∧ Hid (∀ j : Nat, j < i → InsOk l0.length l1.length c (rd_T68 c.f2 j)) ∧ Hid (SoFar c i) ∧ Hid (Below w.heap.size w wr) ∧ Hid (wr.heap[gb]? = some (.cells #[.slice A0 l0.length c0, .slice A1 l1.length c1, .int .i64 a2] 30 (0, 0))) ∧ Hid (wr.heap[g1]? = some (.cells #[.int .i64 c.f0, .int .i64 c.f1, .slice A2 c.f2.length c2, .slice A3 c.f3.length c3] 53 (0, 0)))) (fun _ v6 _ => (c.f2.length - intOf v6).toNat)
  case atStart => exact ⟨0, 0, rfl, rfl, rfl, by omega, Lib.hid (fun j hj => absurd hj (by omega)), Lib.hid ⟨Nat.zero_le _, fun j hj => absurd hj (by simp [safeTo])⟩, HB6, HX6, HY6⟩
  case round =>
    clear HB6 HX6 HY6
    obtain ⟨i, n, rfl, rfl, hnl, hi, HF, HM, HB, HX, HY⟩ := hrel
    have HNl := Lib.hid hnl
    have hnb : n ≤ c.f3.length := by rw [hnl]; exact HM.out.1
    clear hnl
    by_cases hlt : i < c.f2.length
    · have p0 : (0 : Int) ≤ (i : Int) := by omega
      have q0 : (i : Int) < (c.f2.length : Int) := by omega
      obtain ⟨ad, e1, x0, x1, x2, x3, x4⟩ := at_T68 HR2.out i p0 q0
      subst e1
      rw [Int.toNat_natCast] at x0 x1 x2 x3 x4
      obtain ⟨x, hx⟩ : ∃ x, x = rd_T68 c.f2 i := ⟨_, rfl⟩
      have HXo := Lib.hid hx
      rw [← hx] at x0 x1 x2 x3 x4
      clear hx
      have HE := Lib.hid (And.intro x0 (And.intro x1 (And.intro x2 (And.intro x3 x4))))
      clear x0 x1 x2 x3 x4
      have z2 := (blk_cell HY.out 2).trans rfl
      go_upto_region 7 with fail
      clear z2
      have HB1 : Hid (Below w.heap.size w wr.drew) := Lib.hid (below_drew1 HB.out)
      have HX1 : Hid (wr.drew.heap[gb]? = some (.cells #[.slice A0 l0.length c0, .slice A1 l1.length c1, .int .i64 a2] 30 (0, 0))) := HX
      have HY1 : Hid (wr.drew.heap[g1]? = some (.cells #[.int .i64 c.f0, .int .i64 c.f1, .slice (some ad) c.f2.length c2, .slice A3 c.f3.length c3] 53 (0, 0))) := HY
      clear HB HX HY
      go_region_held_law (fun w' => w'.cell? ⟨gb, 0, none⟩ = some (.slice A0 l0.length c0) ∧ w'.cell? ⟨gb, 1, none⟩ = some (.slice A1 l1.length c1) ∧ w'.cell? ⟨gb, 2, none⟩ = some (.int .i64 a2) ∧ w'.cell? ⟨g1, 0, none⟩ = some (.int .i64 c.f0) ∧ w'.cell? ⟨g1, 1, none⟩ = some (.int .i64 c.f1) ∧ w'.cell? ⟨g1, 2, none⟩ = some (.slice (some ad) c.f2.length c2) ∧ w'.cell? ⟨g1, 3, none⟩ = some (.slice A3 c.f3.length c3) ∧ w'.cell? (ad.add (i * 5)) = some (.int .i64 x.f0) ∧ w'.cell? ⟨(ad.add (i * 5)).block, (ad.add (i * 5)).off + 1, none⟩ = some (.int .i64 x.f1) ∧ w'.cell? ⟨(ad.add (i * 5)).block, (ad.add (i * 5)).off + 2, none⟩ = some (.int .i64 x.f2) ∧ w'.cell? ⟨(ad.add (i * 5)).block, (ad.add (i * 5)).off + 3, none⟩ = some (.int .i64 x.f3) ∧ w'.cell? ⟨(ad.add (i * 5)).block, (ad.add (i * 5)).off + 4, none⟩ = some (.int .i64 x.f4)) (first | exact keep12 HX1.out HY1.out HE.out HB1.out | exact keep12 HX2.out HY2.out HE.out HB2.out) ((go_at_call 70; refine (ins_s A0 c0 l0 A1 c1 l1 a2 c _ c2 A3 c3 x _ (Kd.C_below HR0.out HB1.out) HCs.out.1 (Kd.C_below HR1.out HB1.out) HCs.out.2.1 (Kd.C_below HR2.out HB1.out) HCs.out.2.2.1 (Kd.C_below HR3.out HB1.out) HCs.out.2.2.2 hf0 hn0 hn1 hn2).mono ?_; rintro e w9 ⟨b, rfl, hbi, hb⟩; have HBi := Lib.hid hbi; have HB2 := Lib.hid (below_step HB1.out hb); have HX2 := Lib.hid (blk_below HX1.out hb); have HY2 := Lib.hid (blk_below HY1.out hb); clear hbi hb))
      clear HB1 HX1 HY1
      cases b
      · have HN : Hid (¬ CodeOk l0.length l1.length c) := Lib.hid (fun h => by have h1 := h.2.1 i hlt; rw [← HXo.out] at h1; have := HBi.out.2 h1; cases this)
        clear HBi
        go_wp2
        go_ret
        exact tells_no HN.out HB2.out
      · have HF2 : Hid (∀ j : Nat, j < i + 1 → InsOk l0.length l1.length c (rd_T68 c.f2 j)) := Lib.hid (fun j hj => by
          by_cases e : j = i
          · subst e; rw [← HXo.out]; exact HBi.out.1 rfl
          · exact HF.out j (by omega))
        clear HBi HF
        have z2 := (blk_cell HY2.out 2).trans rfl
        have z3 := (blk_cell HY2.out 3).trans rfl
        have x0 := pw_cell_below HB2.out HE.out.1
        cases hsb : safeB x.f0
        · have HV := Lib.hid hsb
          have HSo : Hid (SoFar c (i + 1) ∧ n = (safeTo c.f2 (i + 1)).length) := Lib.hid (by
            have h := HM.out.skip (by rw [← HXo.out]; exact hsb)
            exact ⟨h.1, by rw [h.2]; exact HNl.out⟩)
          clear hsb
          go_wp2_with ((go_at_call 71; refine (l11safe_v _ _ HV.out _).mono ?_; rintro e w' ⟨rfl, rfl⟩))
          clear z2 z3 x0
          go_roundw
          case rel => exact ⟨i + 1, n, by go_num, rfl, HSo.out.2, by omega, HF2, Lib.hid HSo.out.1, HB2, HX2, HY2⟩
          case measure => simp [intOf]; omega
        · have HV := Lib.hid hsb
          have HV2 : Hid (safeB (rd_T68 c.f2 i).f0 = true) := Lib.hid (by rw [← HXo.out]; exact hsb)
          clear hsb
          by_cases hnl : n < c.f3.length
          · have d1 : decide ((c.f3.length : Int) ≤ (n : Int)) = false := decide_eq_false (by omega)
            have p1 : (0 : Int) ≤ (n : Int) := by omega
            have q1 : (n : Int) < (c.f3.length : Int) := by omega
            obtain ⟨ak, As, cs, e1, y0, y1, _, g1s⟩ := at_T72 HR3.out n p1 q1
            subst e1
            rw [Int.toNat_natCast] at y0 y1
            have HSl := Lib.hid g1s
            clear g1s
            have hsl := HN4.out n hnl
            obtain ⟨m, hm⟩ : ∃ m, m = rd_T72 c.f3 n := ⟨_, rfl⟩
            have HMm := Lib.hid hm
            rw [← hm] at y0 y1 HSl hsl
            clear hm
            replace y0 := pw_cell_below HB2.out y0
            replace y1 := pw_cell_below HB2.out y1
            by_cases hpc : m.f0 = (i : Int)
            · have HPc := Lib.hid hpc
              have d2 : (m.f0 != (i : Int)) = false := by rw [hpc]; exact bne_self_eq_false _
              have HNo : Hid (¬ SlotsOk c.f0 m.f1 → ¬ CodeOk l0.length l1.length c) := Lib.hid (fun h g => by
                have := (safe_here hlt HV2.out g.2.2).2.1
                rw [← HNl.out, ← HMm.out] at this
                exact h this)
              have HYes : Hid (SlotsOk c.f0 m.f1 → SoFar c (i + 1) ∧ n + 1 = (safeTo c.f2 (i + 1)).length) := Lib.hid (fun h => by
                have hl2 : (safeTo c.f2 i).length < c.f3.length := by rw [← HNl.out]; exact hnl
                have h2 := HM.out.step HV2.out hl2 (by rw [← HNl.out, ← HMm.out]; exact ⟨h, HPc.out⟩)
                exact ⟨h2.1, by rw [h2.2, ← HNl.out]⟩)
              clear hpc HM
              go_wp2_with (go_at_call 71; refine (l11safe_v _ _ HV.out _).mono ?_; rintro e w' ⟨rfl, rfl⟩)
              clear z2 z3 x0 y0 y1 d1 d2
              go_loopw [8] (fun v8 wr => ∃ j : Nat, v8 = .int .i64 j ∧ j ≤ m.f1.length ∧ Hid (∀ t : Nat, t < j → inB (rd m.f1 t) 3 (wrap64 (c.f0 - 1)) = true ∧ (0 < t → rd m.f1 ((t : Int) - 1) < rd m.f1 t)) ∧ Hid (Below w.heap.size w wr) ∧ Hid (wr.heap[gb]? = some (.cells #[.slice A0 l0.length c0, .slice A1 l1.length c1, .int .i64 a2] 30 (0, 0))) ∧ Hid (wr.heap[g1]? = some (.cells #[.int .i64 c.f0, .int .i64 c.f1, .slice (some ad) c.f2.length c2, .slice (some ak) c.f3.length c3] 53 (0, 0)))) (fun v8 _ => (m.f1.length - intOf v8).toNat)
              case atStart => exact ⟨0, rfl, by omega, Lib.hid (fun t ht => absurd ht (by omega)), HB2, HX2, HY2⟩
              case round =>
                clear HB2 HX2 HY2
                obtain ⟨j, rfl, hj, HF, HB, HX, HY⟩ := hrel
                have z0 := (blk_cell HY.out 0).trans rfl
                by_cases hlj : j < m.f1.length
                · have p2 : (0 : Int) ≤ (j : Int) := by omega
                  have q2 : (j : Int) < (m.f1.length : Int) := by omega
                  obtain ⟨am, e1, x1⟩ := Kd.at_int HSl.out j p2 q2
                  subst e1
                  rw [Int.toNat_natCast] at x1
                  replace x1 := pw_cell_below HB.out x1
                  have hw : wrap64 (c.f0 - 1) = c.f0 - 1 := by unfold wrap64; omega
                  by_cases k3 : rd m.f1 j < 3
                  · have HN : Hid (¬ CodeOk l0.length l1.length c) := Lib.hid (HNo.out (fun h => by have := (inB_iff _ _ _).1 (h j hlj).1; omega))
                    have d3 : decide (rd m.f1 j < 3) = true := decide_eq_true k3
                    clear k3 hw
                    go_wp2
                    go_quiet (fail)
                    go_wp2
                    go_ret
                    exact tells_no HN.out (by first | exact below_step HB.out (pw_below_drewN (Below.refl _ _) _) | exact HB.out)
                  have d3 : decide (rd m.f1 j < 3) = false := decide_eq_false k3
                  by_cases k4 : c.f0 ≤ rd m.f1 j
                  · have HN : Hid (¬ CodeOk l0.length l1.length c) := Lib.hid (HNo.out (fun h => by have := (inB_iff _ _ _).1 (h j hlj).1; rw [hw] at this; omega))
                    have d4 : decide (c.f0 ≤ rd m.f1 j) = true := decide_eq_true k4
                    clear k3 k4 hw
                    go_wp2
                    go_quiet (fail)
                    go_wp2
                    go_ret
                    exact tells_no HN.out (by first | exact below_step HB.out (pw_below_drewN (Below.refl _ _) _) | exact HB.out)
                  have d4 : decide (c.f0 ≤ rd m.f1 j) = false := decide_eq_false k4
                  have hin : inB (rd m.f1 j) 3 (wrap64 (c.f0 - 1)) = true := (inB_iff _ _ _).2 (by rw [hw]; omega)
                  have HIn := Lib.hid hin
                  clear k3 k4 hw hin
                  by_cases h0 : j = 0
                  · have d5 : decide ((0 : Int) < (j : Int)) = false := decide_eq_false (by omega)
                    have d6 : decide (0 < j) = false := decide_eq_false (by omega)
                    have HF3 : Hid (∀ t : Nat, t < j + 1 → inB (rd m.f1 t) 3 (wrap64 (c.f0 - 1)) = true ∧ (0 < t → rd m.f1 ((t : Int) - 1) < rd m.f1 t)) := Lib.hid (fun t ht => by
                      have : t = j := by omega
                      subst this
                      exact ⟨HIn.out, fun h => by omega⟩)
                    clear h0
                    go_wp2
                    go_quiet (fail)
                    have HB7 : Hid (Below w.heap.size w (wr.drewN nq)) := Lib.hid (below_step HB.out (pw_below_drewN (Below.refl _ _) _))
                    have HX7 := Lib.hid (blk_below HX.out (pw_below_drewN (Below.refl _ _) nq))
                    have HY7 := Lib.hid (blk_below HY.out (pw_below_drewN (Below.refl _ _) nq))
                    generalize wr.drewN nq = w7 at HB7 HX7 HY7 ⊢
                    clear HB HX HY
                    go_wp2
                    go_roundw
                    case rel => exact ⟨j + 1, by go_num, by omega, HF3, HB7, HX7, HY7⟩
                    case measure => simp [intOf]; omega
                  · have d5 : decide ((0 : Int) < (j : Int)) = true := decide_eq_true (by omega)
                    have d6 : decide (0 < j) = true := decide_eq_true (by omega)
                    have p3 : (0 : Int) ≤ (j : Int) - 1 := by omega
                    have p4 : (1 : Int) ≤ (j : Int) := by omega
                    have q3 : (j : Int) - 1 < (m.f1.length : Int) := by omega
                    obtain ⟨am2, e2, x2⟩ := Kd.at_int HSl.out ((j : Int) - 1) p3 q3
                    obtain rfl : am = am2 := Option.some.inj e2
                    clear e2
                    replace x2 : wr.cell? (am.add (j - 1)) = some (.int .i64 (rd m.f1 ((j : Int) - 1))) := by
                      have e : ((j : Int) - 1).toNat = j - 1 := by omega
                      rw [e] at x2; exact pw_cell_below HB.out x2
                    by_cases k5 : rd m.f1 j ≤ rd m.f1 ((j : Int) - 1)
                    · have HN : Hid (¬ CodeOk l0.length l1.length c) := Lib.hid (HNo.out (fun h => by have := (h j hlj).2 (by omega); omega))
                      have d7 : decide (rd m.f1 j ≤ rd m.f1 ((j : Int) - 1)) = true := decide_eq_true k5
                      clear k5
                      go_wp2
                      go_quiet (fail)
                      go_wp2
                      go_ret
                      exact tells_no HN.out (by first | exact below_step HB.out (pw_below_drewN (Below.refl _ _) _) | exact HB.out)
                    · have d7 : decide (rd m.f1 j ≤ rd m.f1 ((j : Int) - 1)) = false := decide_eq_false k5
                      have HF3 : Hid (∀ t : Nat, t < j + 1 → inB (rd m.f1 t) 3 (wrap64 (c.f0 - 1)) = true ∧ (0 < t → rd m.f1 ((t : Int) - 1) < rd m.f1 t)) := Lib.hid (fun t ht => by
                        by_cases e : t = j
                        · subst e; exact ⟨HIn.out, fun _ => by omega⟩
                        · exact HF.out t (by omega))
                      clear k5
                      go_wp2
                      go_quiet (fail)
                      have HB7 : Hid (Below w.heap.size w (wr.drewN nq)) := Lib.hid (below_step HB.out (pw_below_drewN (Below.refl _ _) _))
                      have HX7 := Lib.hid (blk_below HX.out (pw_below_drewN (Below.refl _ _) nq))
                      have HY7 := Lib.hid (blk_below HY.out (pw_below_drewN (Below.refl _ _) nq))
                      generalize wr.drewN nq = w7 at HB7 HX7 HY7 ⊢
                      clear HB HX HY
                      go_wp2
                      go_roundw
                      case rel => exact ⟨j + 1, by go_num, by omega, HF3, HB7, HX7, HY7⟩
                      case measure => simp [intOf]; omega
                · have HSo := Lib.hid (HYes.out (fun t ht => HF.out t (by omega)))
                  clear HF
                  go_wp2
                  clear z0
                  go_roundw
                  case rel => exact ⟨i + 1, n + 1, by go_num, by go_num, HSo.out.2, by omega, HF2, Lib.hid HSo.out.1, HB, HX, HY⟩
                  case measure => simp [intOf]; omega
            · have HN : Hid (¬ CodeOk l0.length l1.length c) := Lib.hid (fun g => hpc (by
                have := (safe_here hlt HV2.out g.2.2).2.2
                rw [← HNl.out, ← HMm.out] at this
                exact this))
              have d2 : (m.f0 != (i : Int)) = true := bne_iff_ne.2 hpc
              clear hpc
              go_wp2_with (go_at_call 71; refine (l11safe_v _ _ HV.out _).mono ?_; rintro e w' ⟨rfl, rfl⟩)
              go_ret
              exact tells_no HN.out HB2.out
          · have d1 : decide ((c.f3.length : Int) ≤ (n : Int)) = true := decide_eq_true (by omega)
            have HN : Hid (¬ CodeOk l0.length l1.length c) := Lib.hid (fun g => by
              have := (safe_here hlt HV2.out g.2.2).1
              rw [← HNl.out] at this
              exact hnl this)
            go_wp2_with (go_at_call 71; refine (l11safe_v _ _ HV.out _).mono ?_; rintro e w' ⟨rfl, rfl⟩)
            go_ret
            exact tells_no HN.out HB2.out
    · obtain rfl : i = c.f2.length := by omega
      have HE : Hid (((n : Int) == (c.f3.length : Int)) = true ↔ CodeOk l0.length l1.length c) := Lib.hid (by
        rw [beq_iff_eq]
        refine ⟨fun h => ⟨HH.out, HF.out, ⟨by have := HNl.out; omega, fun j hj => HM.out.2 j (by have := HNl.out; omega)⟩⟩, fun h => ?_⟩
        have := h.2.2.1
        have := HNl.out
        omega)
      have z2 := (blk_cell HY.out 2).trans rfl
      have z3 := (blk_cell HY.out 3).trans rfl
      go_wp2
      go_ret
      exact tells_is HE.out HB.out

open Classical in
noncomputable def codeF (ns nc : Nat) (c : S53) : Option Bool := if SmallC ns nc c then some (decide (CodeOk ns nc c)) else none
open Classical in
theorem codeF_some {ns nc : Nat} {c : S53} {r : Bool} (h : codeF ns nc c = some r) : SmallC ns nc c ∧ (r = true ↔ CodeOk ns nc c) := by
  unfold codeF at h
  by_cases k : SmallC ns nc c
  · rw [if_pos k] at h
    have h2 := Option.some.inj h
    exact ⟨k, by rw [← h2]; exact decide_eq_true_iff⟩
  · rw [if_neg k] at h; cases h
open Classical in
theorem codeF_is {ns nc : Nat} {c : S53} (h : SmallC ns nc c) : ∃ r, codeF ns nc c = some r ∧ (r = true ↔ CodeOk ns nc c) :=
  ⟨decide (CodeOk ns nc c), by unfold codeF; rw [if_pos h], decide_eq_true_iff⟩
theorem code_calls (A0_0 : Option Addr) (c0_0 : Nat) (l0_0 : List (List Bool)) (A0_1 : Option Addr) (c0_1 : Nat) (l0_1 : List (S53)) (a0_2 : Int) (a1_0 : Int) (a1_1 : Int) (A1_2 : Option Addr) (c1_2 : Nat) (l1_2 : List (S68)) (A1_3 : Option Addr) (c1_3 : Nat) (l1_3 : List (S72)) (r : Bool) (w : World) (hr0_0 : Kd.C (Kd.slice 4 Kd.bool) w A0_0 l0_0.length l0_0) (hc0_0 : l0_0.length ≤ c0_0) (hr0_1 : Kd.C k53 w A0_1 l0_1.length l0_1) (hc0_1 : l0_1.length ≤ c0_1) (hr1_2 : Kd.C k68 w A1_2 l1_2.length l1_2) (hc1_2 : l1_2.length ≤ c1_2) (hr1_3 : Kd.C k72 w A1_3 l1_3.length l1_3) (hc1_3 : l1_3.length ≤ c1_3) (h : codeF l0_0.length l0_1.length ⟨a1_0, a1_1, l1_2, l1_3⟩ = some r) :
    Calls Try.prog 48 #[.agg #[.slice A0_0 l0_0.length c0_0, .slice A0_1 l0_1.length c0_1, .int .i64 a0_2], .agg #[.int .i64 a1_0, .int .i64 a1_1, .slice A1_2 l1_2.length c1_2, .slice A1_3 l1_3.length c1_3]] w fun e w' => e = .returned (.bool r) ∧ Below w.heap.size w w' := by
  obtain ⟨hs, hr⟩ := codeF_some h
  refine (code_s A0_0 c0_0 l0_0 A0_1 c0_1 l0_1 a0_2 ⟨a1_0, a1_1, l1_2, l1_3⟩ A1_2 c1_2 A1_3 c1_3 w hr0_0 hc0_0 hr0_1 hc0_1 hr1_2 hc1_2 hr1_3 hc1_3 hs).mono ?_
  rintro e w' ⟨b, rfl, h1, h2⟩
  have e2 : b = r := by
    cases b <;> cases r <;> first | rfl | (exfalso; have h3 := h1.1; have h4 := h1.2; have h5 := hr.1; have h6 := hr.2; first | exact absurd (h4 (h5 rfl)) (by decide) | exact absurd (h6 (h3 rfl)) (by decide))
  subst e2
  exact ⟨rfl, h2⟩

end Go.Proofs.Ytkfeoilnhpfknaa.ImFnExactImageRead
