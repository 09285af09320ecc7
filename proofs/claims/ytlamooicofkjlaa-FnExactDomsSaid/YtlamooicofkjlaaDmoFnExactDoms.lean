/- What the law FnExactDoms calls, as contracts; and what is carried through it. -/
import Derived.Test.YtlamooicofkjlaaDmnFnExactDoms
import Derived.Deep.RegionHeldLaw
namespace Go.Proofs.Ytlamooicofkjlaa.DmFnExactDoms
open Go.RowKit Go.Proofs.Ytlamooicofkjlaa.QFnExactDoms Go.Proofs.YtlamooicofkjlaaW.PrintWords Go.Proofs.YtlamooicofkjlaaW.PrintLast Go.Proofs.Ytlamooicofkjlaa.SrFnExactDoms
open Go.Proofs.Ytlamooicofkjlaa.FnEFnExactDoms (Fits Short Short' ShortB' szAll toT toV toB szFn_tells toFn_tells eqFn_tells short_of short')
open Go.Proofs.Ytlamooicofkjlaa.SpDFnExactDoms (spec_tells)
set_option linter.unusedVariables false
set_option linter.unusedSimpArgs false

abbrev fnV (B0 : Option Addr) (n0 d0 : Nat) (a1 a2 : Int) (B3 : Option Addr) (n3 d3 : Nat) (B4 : Option Addr) (n4 d4 : Nat) : Value := .agg #[.slice B0 n0 d0, .int .i64 a1, .int .i64 a2, .slice B3 n3 d3, .slice B4 n4 d4]
/-- A function in memory. -/
structure FnM (L0 : List S33) (L3 : List S77) (L4 : List S70) (cur : World) (B0 : Option Addr) (d0 : Nat) (B3 : Option Addr) (d3 : Nat) (B4 : Option Addr) (d4 : Nat) : Prop where
  k0 : Kd.C k33 cur B0 L0.length L0
  g0 : L0.length ≤ d0
  k3 : Kd.C k77 cur B3 L3.length L3
  g3 : L3.length ≤ d3
  k4 : Kd.C k70 cur B4 L4.length L4
  g4 : L4.length ≤ d4
/-- .. which may be marked. -/
structure FnG (L0 : List S33) (L3 : List S77) (L4 : List S70) (s1 s2 : Nat) (cur : World) (B0 : Option Addr) (d0 : Nat) (B3 : Option Addr) (d3 : Nat) (B4 : Option Addr) (d4 : Nat) : Prop where
  t : GR (Made s1 s2) cur (.slice B0 L0.length d0) L0.length 2 TI
  v : GR (Made s1 s2) cur (.slice B3 L3.length d3) L3.length 5 (TV (Made s1 s2))
  b : GR (Made s1 s2) cur (.slice B4 L4.length d4) L4.length 5 (TK (Made s1 s2))
section
variable {L0 : List S33} {L3 : List S77} {L4 : List S70} {cur cur' : World} {B0 : Option Addr} {d0 : Nat} {B3 : Option Addr} {d3 : Nat} {B4 : Option Addr} {d4 : Nat}
theorem FnM.below (h : FnM L0 L3 L4 cur B0 d0 B3 d3 B4 d4) (hb : Below cur.heap.size cur cur') : FnM L0 L3 L4 cur' B0 d0 B3 d3 B4 d4 := ⟨Kd.C_below h.k0 hb, h.g0, Kd.C_below h.k3 hb, h.g3, Kd.C_below h.k4 hb, h.g4⟩
theorem FnG.below {s1 s2 : Nat} (h : FnG L0 L3 L4 s1 s2 cur B0 d0 B3 d3 B4 d4) (hb : Below cur.heap.size cur cur') : FnG L0 L3 L4 s1 s2 cur' B0 d0 B3 d3 B4 d4 := ⟨grT_below hb h.t, grV_below hb h.v, grK_below hb h.b⟩
end

/-- toFn hands the function over in memory of its own. -/
def Made2 (L0 : List S33) (a1 a2 : Int) (L3 : List S77) (L4 : List S70) (w : World) (e : Ending) (w' : World) : Prop := ∃ B0 d0 B3 d3 B4 d4, e = .returned (fnV B0 L0.length d0 a1 a2 B3 L3.length d3 B4 L4.length d4) ∧ FnM L0 L3 L4 w' B0 d0 B3 d3 B4 d4 ∧ FnG L0 L3 L4 w.heap.size w'.heap.size w' B0 d0 B3 d3 B4 d4 ∧ Below w.heap.size w w'
theorem toFn_c (A0 : Option Addr) (c0 : Nat) (l0 : List S24) (a1 a2 : Int) (A3 : Option Addr) (c3 : Nat) (l3 : List S63) (A4 : Option Addr) (c4 : Nat) (l4 : List S67) (w : World) (hr0 : Kd.C k24 w A0 l0.length l0) (hc0 : l0.length ≤ c0) (hr3 : Kd.C k63 w A3 l3.length l3) (hc3 : l3.length ≤ c3) (hr4 : Kd.C k67 w A4 l4.length l4) (hc4 : l4.length ≤ c4) (hs : Short l0 l3 l4) :
    Calls Try.prog 6 #[fnV A0 l0.length c0 a1 a2 A3 l3.length c3 A4 l4.length c4] w (Made2 (l0.map toT) a1 a2 (l3.map toV) (l4.map toB) w) := by
  obtain ⟨r, rfl, K, hK⟩ := toFn_tells l0 a1 a2 l3 l4 hs
  have h' := short' hs
  refine (laws_toFn.calls K A0 c0 l0 a1 a2 A3 c3 l3 A4 c4 l4 (l0.map toT) a1 a2 (l3.map toV) (l4.map toB) w hr0 hc0 hr3 hc3 hr4 hc4 (hK K (Nat.le_refl _))).mono ?_
  rintro e w' ⟨v0, v3, v4, rfl, h0, h3, h4, hb⟩
  have h3 := Kd.S_R h3
  obtain ⟨B0, d0, e0, g0, k0⟩ := Kd.R_reads h0
  obtain ⟨B3, d3, e3, g3, k3⟩ := Kd.R_reads h3
  obtain ⟨B4, d4, e4, g4, k4⟩ := Kd.R_reads h4
  have G0 := gr_T (Nat.le_refl _) h0
  have G3 := gr_V (Nat.le_refl _) h3 h'.v3
  have G4 := gr_K (Nat.le_refl _) h4 h'.bs
  subst e0 e3 e4
  exact ⟨B0, d0, B3, d3, B4, d4, rfl, ⟨k0, g0, k3, g3, k4, g4⟩, ⟨G0, G3, G4⟩, hb⟩

/-- The specification's answer. -/
def Tells2 (L4 : List S70) (w : World) (e : Ending) (w' : World) : Prop := ∃ v r, e = .returned v ∧ Answer L4 r ∧ Kd.R (Kd.int .i64) 3 w' w.heap.size (fun _ => True) v r ∧ Below w.heap.size w w'
section
variable {L0 : List S33} {L3 : List S77} {L4 : List S70} (a1 a2 : Int) (hs : Short' L0 L3 L4)
include hs
theorem spec_c (B0 : Option Addr) (d0 : Nat) (B3 : Option Addr) (d3 : Nat) (B4 : Option Addr) (d4 : Nat) (w : World) (h : FnM L0 L3 L4 w B0 d0 B3 d3 B4 d4) :
    Calls Try.prog 5 #[fnV B0 L0.length d0 a1 a2 B3 L3.length d3 B4 L4.length d4] w (Tells2 L4 w) := by
  obtain ⟨r, hr, K, hK⟩ := spec_tells L0 a1 a2 L3 L4 hs
  refine (spec_Doms.calls K B0 d0 L0 a1 a2 B3 d3 L3 B4 d4 L4 r w h.k0 h.g0 h.k3 h.g3 h.k4 h.g4 (hK K (Nat.le_refl _))).mono ?_
  rintro e w' ⟨v, rfl, h1, h2⟩
  exact ⟨v, r, rfl, hr, h1, h2⟩
theorem impl_m (B0 : Option Addr) (d0 : Nat) (B3 : Option Addr) (d3 : Nat) (B4 : Option Addr) (d4 : Nat) (w : World) (h : FnM L0 L3 L4 w B0 d0 B3 d3 B4 d4) :
    Calls Try.prog 7 #[fnV B0 L0.length d0 a1 a2 B3 L3.length d3 B4 L4.length d4] w (Gives L4 w) :=
  impl_c _ _ a1 a2 B4 d4 L0 L3 L4 w h.k4 hs L0.length d0 L3.length d3 B0 B3 rfl rfl
theorem eqFn_c (B0 : Option Addr) (d0 : Nat) (B3 : Option Addr) (d3 : Nat) (B4 : Option Addr) (d4 : Nat) (E0 : Option Addr) (f0 : Nat) (E3 : Option Addr) (f3 : Nat) (E4 : Option Addr) (f4 : Nat) (w : World) (h : FnM L0 L3 L4 w B0 d0 B3 d3 B4 d4) (k : FnM L0 L3 L4 w E0 f0 E3 f3 E4 f4) :
    Calls Try.prog 9 #[fnV B0 L0.length d0 a1 a2 B3 L3.length d3 B4 L4.length d4, fnV E0 L0.length f0 a1 a2 E3 L3.length f3 E4 L4.length f4] w (fun e w' => e = .returned (.bool true) ∧ Below w.heap.size w w') := by
  obtain ⟨t, rfl, K, hK⟩ := eqFn_tells L0 a1 a2 L3 L4 hs
  exact laws_eqFn.calls K B0 d0 L0 a1 a2 B3 d3 L3 B4 d4 L4 E0 f0 L0 a1 a2 E3 f3 L3 E4 f4 L4 true w h.k0 h.g0 h.k3 h.g3 h.k4 h.g4 k.k0 k.g0 k.k3 k.g3 k.k4 k.g4 (hK K (Nat.le_refl _))
end
theorem eqI_c (V : Option Addr) (m : Nat) (V' : Option Addr) (m' : Nat) (r : List Int) (w : World) (hr : r.length ≤ 1048576) (h : Kd.C (Kd.int .i64) w V r.length r) (hm : r.length ≤ m) (h' : Kd.C (Kd.int .i64) w V' r.length r) (hm' : r.length ≤ m') :
    Calls Try.prog 8 #[.slice V r.length m, .slice V' r.length m'] w (fun e w' => e = .returned (.bool true) ∧ Below w.heap.size w w') := by
  obtain ⟨t, rfl, K, hK⟩ := Go.Proofs.Ytlamooicofkjlaa.FnEFnExactDoms.eqIntS_tells r hr
  refine (laws_eqIntS.calls K V m r V' m' r true w h hm h' hm' (hK K (Nat.le_refl _))).mono ?_
  rintro e w' ⟨rfl, hd⟩
  exact ⟨rfl, hd.below⟩

/-- What is carried through the law: the argument's box, and the specification's list. -/
structure St (w : World) (gb s1 : Nat) (bx : Array Value) (v4 : Value) (r : List Int) (cur : World) : Prop where
  b : Below w.heap.size w cur
  lo : w.heap.size ≤ gb
  mi : gb < s1
  hi : s1 ≤ cur.heap.size
  x : cur.heap[gb]? = some (.cells bx 28 (0, 0))
  r : Kd.R (Kd.int .i64) 3 cur w.heap.size (fun k => k < s1) v4 r
section
variable {w : World} {gb s1 : Nat} {bx : Array Value} {v4 : Value} {r : List Int} {cur cur' : World}
theorem St.below (h : St w gb s1 bx v4 r cur) (hb : Below cur.heap.size cur cur') : St w gb s1 bx v4 r cur' :=
  ⟨below_step h.b hb h.b.size, h.lo, h.mi, Nat.le_trans h.hi hb.size, blk_below h.x hb, Kd.R_below h.r hb⟩
theorem Below.sim {F : Nat → Prop} {B : Nat} {w w1 w2 : World} (h : Below B w w1) (s : Sim F w1 w2) (hF : ∀ k, F k → B ≤ k) : Below B w w2 :=
  ⟨s.os.trans h.os, s.tape.trans h.tape, s.output.trans h.output, by rw [s.size]; exact h.size, fun k hk => (s.far k fun hf => by have := hF k hf; omega).trans (h.block k hk)⟩
theorem St.sim {F : Nat → Prop} (h : St w gb s1 bx v4 r cur) (s : Sim F cur cur') (hF : ∀ k, F k → s1 ≤ k) : St w gb s1 bx v4 r cur' :=
  ⟨Below.sim h.b s fun k hk => by have := hF k hk; have := h.lo; have := h.mi; omega, h.lo, h.mi, by rw [s.size]; exact h.hi, (s.far gb fun hf => by have := hF gb hf; have := h.mi; omega).trans h.x, Kd.R_move h.r fun k hk => s.far k fun hf => by have := hF k hf; have hk : k < s1 := hk; omega⟩
theorem St.kept {P : Nat → Prop} (h : St w gb s1 bx v4 r cur) (hb : Below w.heap.size w cur') (k : Kept cur cur' P) (hP : ∀ k, P k → s1 ≤ k) : St w gb s1 bx v4 r cur' :=
  ⟨hb, h.lo, h.mi, Nat.le_trans h.hi k.1, (k.2 gb (blk_lt h.x) fun hf => by have := hP gb hf; have := h.mi; omega).trans h.x, Kd.R_move h.r fun i hi => k.2 i (by have hi : i < s1 := hi; have := h.hi; omega) fun hf => by have := hP i hf; have hi : i < s1 := hi; omega⟩
end
theorem five {w : World} {k t : Nat} {a b c d e : Value} (h : w.heap[k]? = some (.cells #[a, b, c, d, e] t (0, 0))) : w.cell? ⟨k, 0, none⟩ = some a ∧ w.cell? ⟨k, 1, none⟩ = some b ∧ w.cell? ⟨k, 2, none⟩ = some c ∧ w.cell? ⟨k, 3, none⟩ = some d ∧ w.cell? ⟨k, 4, none⟩ = some e :=
  ⟨(blk_cell h 0).trans rfl, (blk_cell h 1).trans rfl, (blk_cell h 2).trans rfl, (blk_cell h 3).trans rfl, (blk_cell h 4).trans rfl⟩
/-- What is carried besides: the function's box, its rows, and the program's list. -/
structure Ph (L0 : List S33) (L3 : List S77) (L4 : List S70) (a1 a2 : Int) (s1 s2 s3 g5 : Nat) (E0 : Option Addr) (f0 : Nat) (E3 : Option Addr) (f3 : Nat) (E4 : Option Addr) (f4 : Nat) (v6 : Value) (r6 : List Int) (cur : World) : Prop where
  x : cur.heap[g5]? = some (.cells #[.slice E0 L0.length f0, .int .i64 a1, .int .i64 a2, .slice E3 L3.length f3, .slice E4 L4.length f4] 37 (0, 0))
  m : FnM L0 L3 L4 cur E0 f0 E3 f3 E4 f4
  g : FnG L0 L3 L4 s1 s2 cur E0 f0 E3 f3 E4 f4
  r : Kd.R (Kd.int .i64) 3 cur s3 (fun k => s3 ≤ k) v6 r6
theorem Ph.below {L0 : List S33} {L3 : List S77} {L4 : List S70} {a1 a2 : Int} {s1 s2 s3 g5 : Nat} {E0 : Option Addr} {f0 : Nat} {E3 : Option Addr} {f3 : Nat} {E4 : Option Addr} {f4 : Nat} {v6 : Value} {r6 : List Int} {cur cur' : World} (h : Ph L0 L3 L4 a1 a2 s1 s2 s3 g5 E0 f0 E3 f3 E4 f4 v6 r6 cur) (hb : Below cur.heap.size cur cur') : Ph L0 L3 L4 a1 a2 s1 s2 s3 g5 E0 f0 E3 f3 E4 f4 v6 r6 cur' :=
  ⟨blk_below h.x hb, h.m.below hb, h.g.below hb, Kd.R_below h.r hb⟩
