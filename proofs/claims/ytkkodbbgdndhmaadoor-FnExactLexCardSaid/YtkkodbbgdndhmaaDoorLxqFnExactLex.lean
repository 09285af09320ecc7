/- What the world holds ahead of the call (strconv's errors, tables); strconv.ParseUint; bits.TrailingZeros of 16. -/
import Derived.Test.YtkkodbbgdndhmaaDoorLxpFnExactLex
import Derived.Lib.SmallJoins
import Derived.Lib.LaidTab
namespace Go.Proofs.YtkkodbbgdndhmaaDoor.LxFnExactLex
open Go.RowKit Go.Proofs.YtkkodbbgdndhmaaDoor.QFnExactLex Go.Proofs.YtkkodbbgdndhmaaDoorW.PrintWords Go.Proofs.YtkkodbbgdndhmaaDoorW.PrintLast Go.Proofs.YtkkodbbgdndhmaaDoor.LexA
set_option linter.unusedSimpArgs false
set_option linter.unusedVariables false

def tab64 : List Int := [0, 1, 56, 2, 57, 49, 28, 3, 61, 58, 42, 50, 38, 29, 17, 4]
/-- What the package-level variables hold. -/
structure LW (w : World) : Prop where
  sy : ∃ tp p, w.var? Tryd.prog "strconv.ErrSyntax" = some #[.iface tp p]
  rg : ∃ tp p, w.var? Tryd.prog "strconv.ErrRange" = some #[.iface tp p]
  tab : Lib.TabIs Tryd.prog w "internal/strconv.uint64pow10" .u64 Lib.pow10Tab
  db : w.cell? ⟨6, 15, none⟩ = some (.int .u8 4)
theorem g_sy : Tryd.prog.globalNamed "strconv.ErrSyntax" = some 1 := by kernel_rfl
theorem g_rg : Tryd.prog.globalNamed "strconv.ErrRange" = some 2 := by kernel_rfl
theorem g_tab : ∃ g, Tryd.prog.globalNamed "internal/strconv.uint64pow10" = some g := Option.isSome_iff_exists.1 (by kernel_rfl)
theorem LW.below {w w' : World} (h : LW w) (hb : Below w.heap.size w w') : LW w' := by
  obtain ⟨g, hg⟩ := g_tab
  refine ⟨?_, ?_, Go.Joins.tab_stays hg h.tab hb (Nat.le_refl _), pw_cell_below hb h.db⟩
  · obtain ⟨tp, p, h⟩ := h.sy; exact ⟨tp, p, Go.Joins.var_stays g_sy h hb (Nat.le_refl _)⟩
  · obtain ⟨tp, p, h⟩ := h.rg; exact ⟨tp, p, Go.Joins.var_stays g_rg h hb (Nat.le_refl _)⟩
theorem LW.c1 {w : World} (h : LW w) : ∃ ev : Value, w.cell? ⟨1, 0, none⟩ = some ev ∧ (ev = .nilIface ∨ ∃ te pe, ev = .iface te pe) := by
  obtain ⟨tp, p, h⟩ := h.sy
  exact ⟨.iface tp p, by simpa using World.var?_cell g_sy h 0, .inr ⟨tp, p, rfl⟩⟩
theorem LW.c2 {w : World} (h : LW w) : ∃ ev : Value, w.cell? ⟨2, 0, none⟩ = some ev ∧ (ev = .nilIface ∨ ∃ te pe, ev = .iface te pe) := by
  obtain ⟨tp, p, h⟩ := h.rg
  exact ⟨.iface tp p, by simpa using World.var?_cell g_rg h 0, .inr ⟨tp, p, rfl⟩⟩

/-- An error or none. -/
def ErrV (v : Value) (none : Bool) : Prop := (none = true ∧ v = .nilIface) ∨ (none = false ∧ ∃ p, v = .iface 71 (.pointer p))
def Parsed (t : ByteArray) (w : World) (e : Ending) (w' : World) : Prop :=
  ∃ (u : Int) (b : Bool) (v : Value), e = .returned (.tuple #[.int .u64 u, v]) ∧ ErrV v b ∧ 0 ≤ u ∧ u < 18446744073709551616 ∧ Below w.heap.size w w' ∧
    ∀ n, hval 0 (nums8 t.data.toList) = some n → 0 < t.size → t.size ≤ 16 → u = n ∧ b = true

set_option maxHeartbeats 8000000 in
set_option maxRecDepth 100000 in
theorem parse_c (t : ByteArray) (hmax : t.size ≤ 1048576) (w : World) (hL : LW w) : Calls Tryd.prog 36 #[.string t, .int .i64 16, .int .i64 64] w (Parsed t w) := by
  have HL := Lib.hid hL
  have HC := Lib.hid (parseI_c t hmax w)
  clear hL
  go_enter Tryd.func36, Tryd.ntmps36
  go_upto_region 2 with (go_at_call 45; refine HC.out.mono ?_; rintro e w1 ⟨u, err, rfl, h0, h1, h2, hb, hs⟩; have H0 := Lib.hid h0; have H1 := Lib.hid h1; have H2 := Lib.hid h2; have HB := Lib.hid hb; have HS := Lib.hid hs; clear h0 h1 h2 hb hs)
  clear HC
  rcases H2.out with rfl | rfl | rfl
  · rw [errW_none]
    go_wp2
    go_ret2
    exact ⟨u, true, _, rfl, .inl ⟨rfl, rfl⟩, H0.out, H1.out, HB.out, fun n hn h3 h4 => ⟨(HS.out n hn h3 h4).1, rfl⟩⟩
  · rw [errW_some]
    obtain ⟨ev, hv, hev⟩ := (HL.out.below HB.out).c2
    have HT := Lib.hid (Go.Proofs.YtkkodbbgdndhmaaDoor.Lb.strconv_toError_range ⟨#[80, 97, 114, 115, 101, 85, 105, 110, 116]⟩ t 16 64 ev w1 (by omega) hv hev)
    clear hv hev
    go_wp2_with (go_at_call 46; go_loud (refine HT.out.mono ?_; rintro e w2 ⟨N, rfl, hN, _, hb2⟩; have HB2 := Lib.hid (below_step HB.out hb2); clear hN hb2))
    go_ret2
    exact ⟨u, false, _, rfl, .inr ⟨rfl, _, rfl⟩, H0.out, H1.out, HB2.out, fun n hn h3 h4 => by have := (HS.out n hn h3 h4).2; cases this⟩
  · rw [errW_some]
    obtain ⟨ev, hv, hev⟩ := (HL.out.below HB.out).c1
    have HT := Lib.hid (Go.Proofs.YtkkodbbgdndhmaaDoor.Lb.strconv_toError_syntax ⟨#[80, 97, 114, 115, 101, 85, 105, 110, 116]⟩ t 16 64 ev w1 (by omega) hv hev)
    clear hv hev
    go_wp2_with (go_at_call 46; go_loud (refine HT.out.mono ?_; rintro e w2 ⟨N, rfl, hN, _, hb2⟩; have HB2 := Lib.hid (below_step HB.out hb2); clear hN hb2))
    go_ret2
    exact ⟨u, false, _, rfl, .inr ⟨rfl, _, rfl⟩, H0.out, H1.out, HB2.out, fun n hn h3 h4 => by have := (HS.out n hn h3 h4).2; cases this⟩

theorem pow2_c (w : World) : Calls Tryd.prog 90 #[.int .i64 16] w fun e w' => e = .returned (.bool true) ∧ w' = w := by
  go_enter Tryd.func90, Tryd.ntmps90
  go_wp2
  go_ret
  exact ⟨rfl, rfl⟩
set_option maxRecDepth 100000 in
theorem zeros64_c (w : World) (h : w.cell? ⟨6, 15, none⟩ = some (.int .u8 4)) : Calls Tryd.prog 95 #[.int .u64 16] w fun e w' => e = .returned (.int .i64 4) ∧ w' = w := by
  have hq : IntKind.u64.wrap (bits .and .u64 16 (IntKind.u64.wrap (-16)) * 285870213051353865) / 288230376151711744 = 15 := by decide +kernel
  go_enter Tryd.func95, Tryd.ntmps95
  go_wp2
  go_ret
  exact ⟨rfl, rfl⟩
theorem zeros_c (w : World) (h : w.cell? ⟨6, 15, none⟩ = some (.int .u8 4)) : Calls Tryd.prog 91 #[.int .u64 16] w fun e w' => e = .returned (.int .i64 4) ∧ w' = w := by
  go_enter Tryd.func91, Tryd.ntmps91
  go_wp2_with (go_at_call 95; refine (zeros64_c w h).mono ?_; rintro e w' ⟨rfl, rfl⟩)
  go_ret
  exact ⟨rfl, rfl⟩

end Go.Proofs.YtkkodbbgdndhmaaDoor.LxFnExactLex
