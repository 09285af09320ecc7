/- The walk of the law FnExactImageBytes. -/
import Derived.Test.YtkfeoilnhpfknaaImuFnExactImageBytes
import Derived.Test.YtkfeoilnhpfknaaImgEFnExactImageBytes
import Derived.Test.YtkfeoilnhpfknaaImgSFnExactImageBytes
import Derived.Test.YtkfeoilnhpfknaaBytePFnExactImageBytes
import Derived.Test.YtkfeoilnhpfknaaImgNFnExactImageBytes
import Derived.Deep.RegionHeldLaw
namespace Go.Proofs.Ytkfeoilnhpfknaa.ImFnExactImageBytes
open Go.RowKit Go.Proofs.Ytkfeoilnhpfknaa.QFnExactImageBytes Go.Proofs.YtkfeoilnhpfknaaW.PrintWords Go.Proofs.YtkfeoilnhpfknaaW.PrintLast
open Go.Proofs.Ytkfeoilnhpfknaa.ImgEFnExactImageBytes (Fits Short szAll toC szImage_tells short_of toImage_tells eqImage_tells)
open Go.Proofs.Ytkfeoilnhpfknaa.ImgSFnExactImageBytes (spec_tells)
open Go.Proofs.Ytkfeoilnhpfknaa.BytePFnExactImageBytes (eq_tells mark_tells held_tells upB upB_len)
open Go.Proofs.Ytkfeoilnhpfknaa.ImgNFnExactImageBytes (img_most)
attribute [local go_sem ↓] Go.wp_at_zero Go.wp_at_succ
set_option linter.unusedVariables false
set_option linter.unusedSimpArgs false

/-- toImage hands the image over in memory of its own. -/
def Made2 (l0 : List (List Bool)) (L1 : List S53) (a2 : Int) (w : World) (e : Ending) (w' : World) : Prop := ∃ B0 d0 B1 d1, e = .returned (.agg #[.slice B0 l0.length d0, .slice B1 L1.length d1, .int .i64 a2]) ∧ Kd.C (Kd.slice 4 Kd.bool) w' B0 l0.length l0 ∧ l0.length ≤ d0 ∧ Kd.C k53 w' B1 L1.length L1 ∧ L1.length ≤ d1 ∧ GR (Made w.heap.size w'.heap.size) w' (.slice B0 l0.length d0) l0.length 1 (TS (Made w.heap.size w'.heap.size)) ∧ GR (Made w.heap.size w'.heap.size) w' (.slice B1 L1.length d1) L1.length 4 (TC (Made w.heap.size w'.heap.size)) ∧ Below w.heap.size w w'
theorem toImg_c (A0 : Option Addr) (c0 : Nat) (l0 : List (List Bool)) (A1 : Option Addr) (c1 : Nat) (l1 : List S83) (a2 : Int) (w : World) (hr0 : Kd.C (Kd.slice 4 Kd.bool) w A0 l0.length l0) (hc0 : l0.length ≤ c0) (hr1 : Kd.C k83 w A1 l1.length l1) (hc1 : l1.length ≤ c1) (hs : Short l0 l1) :
    Calls Try.prog 8 #[.agg #[.slice A0 l0.length c0, .slice A1 l1.length c1, .int .i64 a2]] w (Made2 l0 (l1.map toC) a2 w) := by
  obtain ⟨r, rfl, K, hK⟩ := toImage_tells l0 l1 a2 hs
  refine (laws_toImage.calls K A0 c0 l0 A1 c1 l1 a2 l0 (l1.map toC) a2 w hr0 hc0 hr1 hc1 (hK K (Nat.le_refl _))).mono ?_
  rintro e w' ⟨v0, v1, rfl, h0, h1, hb⟩
  have h0 := Kd.S_R h0
  obtain ⟨B0, d0, e0, g0, k0⟩ := Kd.R_reads h0
  obtain ⟨B1, d1, e1, g1, k1⟩ := Kd.R_reads h1
  have G0 := gr_S (Nat.le_refl _) h0 hs.2.1
  have G1 := gr_C (Nat.le_refl _) h1 (fun c hc => by
    obtain ⟨c', hc', rfl⟩ := List.mem_map.1 hc
    have h := hs.2.2.2 c' hc'
    refine ⟨by unfold toC; rw [List.length_map]; exact h.1, by unfold toC; rw [List.length_map]; exact h.2.1, fun m hm => ?_⟩
    obtain ⟨m', hm', rfl⟩ := List.mem_map.1 hm
    exact h.2.2 m' hm')
  subst e0 e1
  exact ⟨B0, d0, B1, d1, rfl, k0, g0, k1, g1, G0, G1, hb⟩

/-- The specification's answer. -/
theorem spec_c (B0 : Option Addr) (d0 : Nat) (l0 : List (List Bool)) (B1 : Option Addr) (d1 : Nat) (l1 : List S53) (a2 : Int) (w : World) (hr0 : Kd.C (Kd.slice 4 Kd.bool) w B0 l0.length l0) (hc0 : l0.length ≤ d0) (hr1 : Kd.C k53 w B1 l1.length l1) (hc1 : l1.length ≤ d1) (hsz : (imgB l0 l1 a2).length ≤ 1099511627) :
    Calls Try.prog 11 #[.agg #[.slice B0 l0.length d0, .slice B1 l1.length d1, .int .i64 a2]] w (Gives l0 l1 a2 w) := by
  obtain ⟨t, ht, K, hK⟩ := spec_tells l0 l1 a2 hsz
  have hS : spec_l11bytes.f l0 l1 a2 = some (imgS l0 l1 a2) := by
    show (if (imgS l0 l1 a2).length ≤ 1099511627 then some (imgS l0 l1 a2) else none) = _
    rw [if_pos (by rw [imgS_len]; exact hsz)]
  have hf : spec_ImageBytes.f K l0 l1 a2 = some (if t = true then imgB l0 l1 a2 else [], t) := by
    unfold spec_ImageBytes.f
    have hk : spec_ImageOk.f K l0 l1 a2 = some t := hK K (Nat.le_refl _)
    rw [hk, Option.bind_some]
    cases t
    · rfl
    · rw [if_pos rfl, if_pos rfl, hS, Option.bind_some, Go.Proofs.Ytkfeoilnhpfknaa.ImgNFnExactImageBytes.imgS_is l0 l1 a2 (ht.1 rfl)]
  refine (spec_ImageBytes.calls K B0 d0 l0 B1 d1 l1 a2 _ t w hr0 hc0 hr1 hc1 hf).mono ?_
  rintro e w' ⟨v, rfl, h1, h2⟩
  exact ⟨v, t, rfl, ht, h1, h2⟩

theorem eqB_c (V : Option Addr) (m : Nat) (V' : Option Addr) (m' : Nat) (r : List Int) (w : World) (hr : r.length ≤ 1099511627776) (h : Kd.C (Kd.int .u8) w V r.length r) (hm : r.length ≤ m) (h' : Kd.C (Kd.int .u8) w V' r.length r) (hm' : r.length ≤ m') :
    Calls Try.prog 13 #[.slice V r.length m, .slice V' r.length m'] w (fun e w' => e = .returned (.bool true) ∧ Below w.heap.size w w') := by
  obtain ⟨t, rfl, K, hK⟩ := eq_tells r hr
  refine (laws_eqByteS.calls K V m r V' m' r true w h hm h' hm' (hK K (Nat.le_refl _))).mono ?_
  rintro e w' ⟨rfl, hd⟩
  exact ⟨rfl, hd.below⟩
theorem held_c (V : Option Addr) (m n : Nat) (w : World) (hn : n ≤ 1099511627776) (h : Kd.C (Kd.int .u8) w V n (upB 1 n)) (hm : n ≤ m) :
    Calls Try.prog 16 #[.slice V n m, .int .i64 1] w (fun e w' => e = .returned (.int .i64 (1 + n)) ∧ Below w.heap.size w w') := by
  obtain ⟨t, rfl, K, hK⟩ := held_tells n hn 1 (by omega)
  have e1 : (upB 1 n).length = n := upB_len _ _
  have hc := laws_heldByteS.calls K V m (upB 1 n) 1 (1 + n) w (by rw [e1]; exact h) (by rw [e1]; exact hm) (hK K (Nat.le_refl _))
  rw [e1] at hc
  refine hc.mono ?_
  rintro e w' ⟨rfl, hd⟩
  exact ⟨rfl, hd.below⟩
theorem eqImg_c (B0 : Option Addr) (d0 : Nat) (l0 : List (List Bool)) (B1 : Option Addr) (d1 : Nat) (l1 : List S83) (a2 : Int) (E0 : Option Addr) (f0 : Nat) (E1 : Option Addr) (f1 : Nat) (w : World) (hs : Short l0 l1) (h0 : Kd.C (Kd.slice 4 Kd.bool) w B0 l0.length l0) (hc0 : l0.length ≤ d0) (h1 : Kd.C k53 w B1 (l1.map toC).length (l1.map toC)) (hc1 : (l1.map toC).length ≤ d1) (g0 : Kd.C (Kd.slice 4 Kd.bool) w E0 l0.length l0) (gc0 : l0.length ≤ f0) (g1 : Kd.C k53 w E1 (l1.map toC).length (l1.map toC)) (gc1 : (l1.map toC).length ≤ f1) :
    Calls Try.prog 10 #[.agg #[.slice B0 l0.length d0, .slice B1 (l1.map toC).length d1, .int .i64 a2], .agg #[.slice E0 l0.length f0, .slice E1 (l1.map toC).length f1, .int .i64 a2]] w (fun e w' => e = .returned (.bool true) ∧ Below w.heap.size w w') := by
  obtain ⟨t, rfl, K, hK⟩ := eqImage_tells l0 l1 a2 hs
  exact laws_eqImage.calls K B0 d0 l0 B1 d1 (l1.map toC) a2 E0 f0 l0 E1 f1 (l1.map toC) a2 true w h0 hc0 h1 hc1 g0 gc0 g1 gc1 (hK K (Nat.le_refl _))

/-- What is carried through the law: the argument's box, and the specification's row. -/
def St (w : World) (gb s1 : Nat) (bx : Array Value) (v4 : Value) (r : List Int) (cur : World) : Prop := Below w.heap.size w cur ∧ w.heap.size ≤ gb ∧ gb < s1 ∧ s1 ≤ cur.heap.size ∧ cur.heap[gb]? = some (.cells bx 25 (0, 0)) ∧ Kd.R (Kd.int .u8) 5 cur w.heap.size (fun k => k < s1) v4 r
theorem St.below {w : World} {gb s1 : Nat} {bx : Array Value} {v4 : Value} {r : List Int} {cur cur' : World} (h : St w gb s1 bx v4 r cur) (hb : Below cur.heap.size cur cur') : St w gb s1 bx v4 r cur' :=
  ⟨below_step h.1 hb, h.2.1, h.2.2.1, Nat.le_trans h.2.2.2.1 hb.size, blk_below h.2.2.2.2.1 hb, Kd.R_below h.2.2.2.2.2 hb⟩
theorem Below.sim {F : Nat → Prop} {B : Nat} {w w1 w2 : World} (h : Below B w w1) (s : Sim F w1 w2) (hF : ∀ k, F k → B ≤ k) : Below B w w2 :=
  ⟨s.os.trans h.os, s.tape.trans h.tape, s.output.trans h.output, by rw [s.size]; exact h.size, fun k hk => (s.far k fun hf => by have := hF k hf; omega).trans (h.block k hk)⟩
theorem St.sim {F : Nat → Prop} {w : World} {gb s1 : Nat} {bx : Array Value} {v4 : Value} {r : List Int} {cur cur' : World} (h : St w gb s1 bx v4 r cur) (s : Sim F cur cur') (hF : ∀ k, F k → s1 ≤ k) : St w gb s1 bx v4 r cur' :=
  ⟨Below.sim h.1 s fun k hk => by have := hF k hk; have := h.2.1; have := h.2.2.1; omega, h.2.1, h.2.2.1, by rw [s.size]; exact h.2.2.2.1, (s.far gb fun hf => by have := hF gb hf; have := h.2.2.1; omega).trans h.2.2.2.2.1, Kd.R_move h.2.2.2.2.2 fun k hk => s.far k fun hf => by have := hF k hf; have hk : k < s1 := hk; omega⟩
theorem St.kept {P : Nat → Prop} {w : World} {gb s1 : Nat} {bx : Array Value} {v4 : Value} {r : List Int} {cur cur' : World} (h : St w gb s1 bx v4 r cur) (hb : Below w.heap.size w cur') (k : Kept cur cur' P) (hP : ∀ k, P k → s1 ≤ k) : St w gb s1 bx v4 r cur' :=
  ⟨hb, h.2.1, h.2.2.1, Nat.le_trans h.2.2.2.1 k.1, (k.2 gb (blk_lt h.2.2.2.2.1) fun hf => by have := hP gb hf; have := h.2.2.1; omega).trans h.2.2.2.2.1, Kd.R_move h.2.2.2.2.2 fun i hi => k.2 i (by have hi : i < s1 := hi; have := h.2.2.2.1; omega) fun hf => by have := hP i hf; have hi : i < s1 := hi; omega⟩
theorem St.box {w : World} {gb s1 : Nat} {a b c : Value} {v4 : Value} {r : List Int} {cur : World} (h : St w gb s1 #[a, b, c] v4 r cur) : cur.cell? ⟨gb, 0, none⟩ = some a ∧ cur.cell? ⟨gb, 1, none⟩ = some b ∧ cur.cell? ⟨gb, 2, none⟩ = some c := three h.2.2.2.2.1

/-- What is carried besides: the first image's box, its rows, and the program's row. -/
def Ph (s1 s2 s3 g6 : Nat) (E0 : Option Addr) (f0 : Nat) (l0 : List (List Bool)) (E1 : Option Addr) (f1 : Nat) (L1 : List S53) (a2 : Int) (v7 : Value) (r7 : List Int) (cur : World) : Prop := cur.heap[g6]? = some (.cells #[.slice E0 l0.length f0, .slice E1 L1.length f1, .int .i64 a2] 30 (0, 0)) ∧ Kd.C (Kd.slice 4 Kd.bool) cur E0 l0.length l0 ∧ Kd.C k53 cur E1 L1.length L1 ∧ GR (Made s1 s2) cur (.slice E0 l0.length f0) l0.length 1 (TS (Made s1 s2)) ∧ GR (Made s1 s2) cur (.slice E1 L1.length f1) L1.length 4 (TC (Made s1 s2)) ∧ Kd.R (Kd.int .u8) 5 cur s3 (fun k => s3 ≤ k) v7 r7
theorem Ph.below {s1 s2 s3 g6 : Nat} {E0 : Option Addr} {f0 : Nat} {l0 : List (List Bool)} {E1 : Option Addr} {f1 : Nat} {L1 : List S53} {a2 : Int} {v7 : Value} {r7 : List Int} {cur cur' : World} (h : Ph s1 s2 s3 g6 E0 f0 l0 E1 f1 L1 a2 v7 r7 cur) (hb : Below cur.heap.size cur cur') : Ph s1 s2 s3 g6 E0 f0 l0 E1 f1 L1 a2 v7 r7 cur' :=
  ⟨blk_below h.1 hb, Kd.C_below h.2.1 hb, Kd.C_below h.2.2.1 hb, grS_below hb h.2.2.2.1, grC_below hb h.2.2.2.2.1, Kd.R_below h.2.2.2.2.2 hb⟩
theorem six {w : World} {gb s1 s2 s3 g6 : Nat} {a b c : Value} {v4 : Value} {r : List Int} {E0 : Option Addr} {f0 : Nat} {l0 : List (List Bool)} {E1 : Option Addr} {f1 : Nat} {L1 : List S53} {a2 : Int} {v7 : Value} {r7 : List Int} {cur : World} (h : St w gb s1 #[a, b, c] v4 r cur) (k : Ph s1 s2 s3 g6 E0 f0 l0 E1 f1 L1 a2 v7 r7 cur) :
    cur.cell? ⟨g6, 0, none⟩ = some (.slice E0 l0.length f0) ∧ cur.cell? ⟨g6, 1, none⟩ = some (.slice E1 L1.length f1) ∧ cur.cell? ⟨g6, 2, none⟩ = some (.int .i64 a2) ∧ cur.cell? ⟨gb, 0, none⟩ = some a ∧ cur.cell? ⟨gb, 1, none⟩ = some b ∧ cur.cell? ⟨gb, 2, none⟩ = some c :=
  ⟨(three k.1).1, (three k.1).2.1, (three k.1).2.2, h.box.1, h.box.2.1, h.box.2.2⟩

set_option maxHeartbeats 8000000 in
set_option maxRecDepth 100000 in
theorem law_c (A0 : Option Addr) (c0 : Nat) (l0 : List (List Bool)) (A1 : Option Addr) (c1 : Nat) (l1 : List S83) (a2 : Int) (w : World) (hr0 : Kd.C (Kd.slice 4 Kd.bool) w A0 l0.length l0) (hc0 : l0.length ≤ c0) (hr1 : Kd.C k83 w A1 l1.length l1) (hc1 : l1.length ≤ c1) (hf : Fits l0 l1) :
    Calls Try.prog 4 #[.agg #[.slice A0 l0.length c0, .slice A1 l1.length c1, .int .i64 a2]] w (fun e w' => e = .returned (.bool true) ∧ Below w.heap.size w w') := by
  have hu25 := Try.underlying25
  have hu30 := Try.underlying30
  obtain ⟨t, ht, K, hK⟩ := szImage_tells l0 l1 a2 hf
  have HSz : Hid (∀ w1, Below w.heap.size w w1 → Calls Try.prog 6 #[.agg #[.slice A0 l0.length c0, .slice A1 l1.length c1, .int .i64 a2], .int .i64 1048576] w1 (fun e w' => e = .returned (.int .i64 t) ∧ Below w1.heap.size w1 w')) := Lib.hid (fun w1 hb => laws_szImage.calls K A0 c0 l0 A1 c1 l1 a2 1048576 t w1 (Kd.C_below hr0 hb) hc0 (Kd.C_below hr1 hb) hc1 (hK K (Nat.le_refl _)))
  by_cases htn : t < 0
  · have d1 : decide (t < 0) = true := decide_eq_true htn
    clear ht hK htn hf hr0 hr1
    go_enter Try.func4, Try.ntmps4
    go_wp2_with (first | ((with_reducible refine gate_dst (N := 1) rfl ?_); refine box_event ?hg (N := 1) ?hd (cs := #[.slice A0 l0.length c0, .slice A1 l1.length c1, .int .i64 a2]) (t := 25) ?hr ?_; (case hd => rfl); (case hg => rfl); (case hr => first | (go_simp; done) | (go_simp; rfl)); intro gb hg w1 hbox hb; have HGb := Lib.hid (Nat.le_of_eq hg.symm); clear hg; have HB := Lib.hid hb; have HX := Lib.hid hbox; have y0 := (blk_cell hbox 0).trans rfl; have y1 := (blk_cell hbox 1).trans rfl; have y2 := (blk_cell hbox 2).trans rfl; clear hbox hb) | (go_at_call 6; refine (HSz.out _ HB.out).mono ?_; rintro e w2 ⟨rfl, hb⟩; have HB2 := Lib.hid (below_step HB.out hb); clear hb y0 y1 y2))
    go_ret
    exact ⟨rfl, HB2.out⟩
  have d1 : decide (t < 0) = false := decide_eq_false htn
  rcases ht with ht | ⟨h0, h1⟩
  · exact absurd ht htn
  have hs : Short l0 l1 := short_of (by omega)
  have hm := img_most l0 l1 a2
  have hsz : (imgB l0 (l1.map toC) a2).length ≤ 1099511627 := by omega
  have hlen : ∀ s : Prop, True := fun _ => trivial
  have HT : Hid (∀ w1, Below w.heap.size w w1 → Calls Try.prog 8 #[.agg #[.slice A0 l0.length c0, .slice A1 l1.length c1, .int .i64 a2]] w1 (Made2 l0 (l1.map toC) a2 w1)) := Lib.hid (fun w1 hb => toImg_c A0 c0 l0 A1 c1 l1 a2 w1 (Kd.C_below hr0 hb) hc0 (Kd.C_below hr1 hb) hc1 hs)
  have HE : Hid (∀ (B0 : Option Addr) (d0 : Nat) (B1 : Option Addr) (d1 : Nat) (E0 : Option Addr) (f0 : Nat) (E1 : Option Addr) (f1 : Nat) (w : World), Kd.C (Kd.slice 4 Kd.bool) w B0 l0.length l0 → l0.length ≤ d0 → Kd.C k53 w B1 (l1.map toC).length (l1.map toC) → (l1.map toC).length ≤ d1 → Kd.C (Kd.slice 4 Kd.bool) w E0 l0.length l0 → l0.length ≤ f0 → Kd.C k53 w E1 (l1.map toC).length (l1.map toC) → (l1.map toC).length ≤ f1 →
      Calls Try.prog 10 #[.agg #[.slice B0 l0.length d0, .slice B1 (l1.map toC).length d1, .int .i64 a2], .agg #[.slice E0 l0.length f0, .slice E1 (l1.map toC).length f1, .int .i64 a2]] w (fun e w' => e = .returned (.bool true) ∧ Below w.heap.size w w')) := Lib.hid (fun B0 d0 B1 d1 E0 f0 E1 f1 w h0 h1 h2 h3 h4 h5 h6 h7 => eqImg_c B0 d0 l0 B1 d1 l1 a2 E0 f0 E1 f1 w hs h0 h1 h2 h3 h4 h5 h6 h7)
  have hn0 : l0.length ≤ 1048576 := hs.1
  have hn1 : (l1.map toC).length ≤ 1048576 := by rw [List.length_map]; exact hs.2.2.1
  obtain ⟨L1, hL1⟩ : ∃ L1, L1 = l1.map toC := ⟨_, rfl⟩
  rw [← hL1] at HT HE hsz hn1
  have HS := Lib.hid hsz
  clear hL1 hm hs h0 h1 htn hf hK hr0 hr1 hc0 hc1 hlen hsz
  go_enter Try.func4, Try.ntmps4
  go_upto_region 6 with (first
    | ((with_reducible refine gate_dst (N := 1) rfl ?_); refine box_event ?hg (N := 1) ?hd (cs := #[.slice A0 l0.length c0, .slice A1 l1.length c1, .int .i64 a2]) (t := 25) ?hr ?_; (case hd => rfl); (case hg => rfl); (case hr => first | (go_simp; done) | (go_simp; rfl)); intro gb hg w1 hbox hb; have HGb := Lib.hid (Nat.le_of_eq hg.symm); clear hg; have HB := Lib.hid hb; have HX := Lib.hid hbox; have y0 := (blk_cell hbox 0).trans rfl; have y1 := (blk_cell hbox 1).trans rfl; have y2 := (blk_cell hbox 2).trans rfl; clear hbox hb)
    | (go_at_call 6; refine (HSz.out _ HB.out).mono ?_; rintro e w2 ⟨rfl, hb⟩; have HB2 := Lib.hid (below_step HB.out hb); have HX2 := Lib.hid (blk_below HX.out hb); clear hb y0 y1 y2; have y0 := (blk_cell HX2.out 0).trans rfl; have y1 := (blk_cell HX2.out 1).trans rfl; have y2 := (blk_cell HX2.out 2).trans rfl)
    | (go_at_call 8; refine (HT.out _ HB2.out).mono ?_; rintro e w3 ⟨B0, d0, B1, d1, rfl, k0, g0, k1, g1, _, _, hb⟩; have HSp := Lib.hid (spec_c B0 d0 l0 B1 d1 L1 a2 w3 k0 g0 k1 g1 HS.out); have HB3 := Lib.hid (below_step HB2.out hb); have HX3 := Lib.hid (blk_below HX2.out hb); clear k0 g0 k1 g1 hb y0 y1 y2)
    | (go_at_call 11; refine HSp.out.mono ?_; rintro e w4 ⟨v4, b4, rfl, hb4, hR4, hb⟩; have HBi := Lib.hid hb4; have HR4 := Lib.hid (Kd.R_lower hR4 HB3.out.size); have HB4 := Lib.hid (below_step HB3.out hb); have HX4 := Lib.hid (blk_below HX3.out hb); clear hb4 hR4 hb HSp))
  obtain ⟨r, hr⟩ : ∃ r, r = (if b4 = true then imgB l0 L1 a2 else []) := ⟨_, rfl⟩
  have HRr : Hid (∀ b : Bool, (b = true ↔ ImgOk l0 L1 a2) → b = b4 ∧ (if b = true then imgB l0 L1 a2 else []) = r) := Lib.hid (fun b hb => by
    have e : b = b4 := by
      have h4 := HBi.out
      cases b <;> cases b4 <;> first | rfl | (exfalso; first | exact absurd (h4.2 (hb.1 rfl)) (by decide) | exact absurd (hb.2 (h4.1 rfl)) (by decide))
    exact ⟨e, by rw [e, hr]⟩)
  have hrl : r.length ≤ 1099511627776 := by
    rw [hr]
    have := HS.out
    split
    · omega
    · exact Nat.zero_le _
  rw [← hr] at HR4
  clear hr HBi
  have HSt4 : Hid (St w gb w4.heap.size #[.slice A0 l0.length c0, .slice A1 l1.length c1, .int .i64 a2] v4 r w4) := Lib.hid ⟨HB4.out, HGb.out, blk_lt HX4.out, Nat.le_refl _, HX4.out, Kd.R_mono (Kd.R_bound HR4.out) (fun k hk => hk.2.2.1)⟩
  obtain ⟨s1, hs1⟩ : ∃ s1, s1 = w4.heap.size := ⟨_, rfl⟩
  rw [← hs1] at HSt4
  have HS1 := Lib.hid hs1
  clear hs1 HB4 HX4 HR4 HB3 HX3 HB2 HX2 HB HX HGb
  obtain ⟨V4, m4, e4, _, _⟩ := Kd.R_reads HSt4.out.2.2.2.2.2
  subst e4
  obtain ⟨y0, y1, y2⟩ := (HSt4.out).box
  go_upto_region 7 with (first
    | ((with_reducible refine gate_dst (N := 6) rfl ?_); refine box_event ?hg (N := 6) ?hd (cs := #[.slice none 0 0, .slice none 0 0, .int .i64 0]) (t := 30) ?hr ?_; (case hd => rfl); (case hg => rfl); (case hr => first | (go_simp; done) | (go_simp; rfl)); intro g6 hg w6 hbox hb; have HG6 := Lib.hid hg; have z0 := (blk_cell hbox 0).trans rfl; have z1 := (blk_cell hbox 1).trans rfl; have z2 := (blk_cell hbox 2).trans rfl; have n0 := blk_frozen hbox 0; have n1 := blk_frozen hbox 1; have n2 := blk_frozen hbox 2; have HB6 := Lib.hid hb; have HX6 := Lib.hid hbox; clear hbox hb hg)
    | (go_at_call 8; refine (HT.out _ HSt4.out.1).mono ?_; rintro e w5 ⟨E0, f0, E1, f1, rfl, k0, g0, k1, g1, G0, G1, hb⟩; rw [← HS1.out] at G0 G1; have HK5 := Lib.hid (And.intro k0 (And.intro g0 (And.intro k1 g1))); have HG0 := Lib.hid G0; have HG1 := Lib.hid G1; have HSt5 := Lib.hid (HSt4.out.below hb); clear k0 g0 k1 g1 G0 G1 hb y0 y1 y2))
  clear z0 z1 z2 n0 n1 n2
  have HBr : Hid (Below w5.heap.size w5 (((w6.setCell ⟨g6, 0, none⟩ (.slice E0 l0.length f0)).setCell ⟨g6, 1, none⟩ (.slice E1 L1.length f1)).setCell ⟨g6, 2, none⟩ (.int .i64 a2))) := Lib.hid (below_set (below_set (below_set HB6.out (Nat.le_of_eq HG6.out.symm)) (Nat.le_of_eq HG6.out.symm)) (Nat.le_of_eq HG6.out.symm))
  have HX7 : Hid ((((w6.setCell ⟨g6, 0, none⟩ (.slice E0 l0.length f0)).setCell ⟨g6, 1, none⟩ (.slice E1 L1.length f1)).setCell ⟨g6, 2, none⟩ (.int .i64 a2)).heap[g6]? = some (.cells #[.slice E0 l0.length f0, .slice E1 L1.length f1, .int .i64 a2] 30 (0, 0))) := Lib.hid (by simpa using blk_set (blk_set (blk_set HX6.out 0 (.slice E0 l0.length f0)) 1 (.slice E1 L1.length f1)) 2 (.int .i64 a2))
  generalize (((w6.setCell ⟨g6, 0, none⟩ (.slice E0 l0.length f0)).setCell ⟨g6, 1, none⟩ (.slice E1 L1.length f1)).setCell ⟨g6, 2, none⟩ (.int .i64 a2)) = w7 at HBr HX7 ⊢
  have HSt7 := Lib.hid (HSt5.out.below HBr.out)
  have HF6 : Hid (¬ Made s1 w5.heap.size g6) := Lib.hid (fun h => by have := h.2; have := HG6.out; omega)
  have HK7 := Lib.hid (And.intro (Kd.C_below HK5.out.1 HBr.out) (And.intro HK5.out.2.1 (And.intro (Kd.C_below HK5.out.2.2.1 HBr.out) HK5.out.2.2.2)))
  have HG07 := Lib.hid (grS_below HBr.out HG0.out)
  have HG17 := Lib.hid (grC_below HBr.out HG1.out)
  have HG6o : Hid (w5.heap.size ≤ g6) := Lib.hid (Nat.le_of_eq HG6.out.symm)
  have HS2 : Hid (w5.heap.size ≤ w7.heap.size ∧ s1 ≤ w5.heap.size) := Lib.hid ⟨HBr.out.size, HSt5.out.2.2.2.1⟩
  obtain ⟨s2, hs2⟩ : ∃ s2, s2 = w5.heap.size := ⟨_, rfl⟩
  rw [← hs2] at HS2 HF6 HG07 HG17 HG6o
  clear hs2 HBr HG0 HG1 HK5 HSt5 HSt4 HG6 HB6 HX6
  have z0 := (blk_cell HX7.out 0).trans rfl
  have z1 := (blk_cell HX7.out 1).trans rfl
  have z2 := (blk_cell HX7.out 2).trans rfl
  go_upto_region 8 with (go_at_call 12; refine (imgBytes_c E0 f0 l0 E1 f1 L1 a2 w7 HK7.out.1 HK7.out.2.2.1 HS.out).mono ?_; rintro e w8 ⟨v7, b7, rfl, hbi, hR, hb⟩; obtain ⟨hb7, hrb⟩ := HRr.out b7 hbi; rw [hrb] at hR; subst hb7; obtain ⟨V7, m7, e7, _, _⟩ := Kd.R_reads hR; subst e7; have HR7 := Lib.hid (Kd.R_mono (Kd.R_bound hR) (ok' := fun k => w7.heap.size ≤ k) (fun k hk => hk.2.1)); have HSt8 := Lib.hid (HSt7.out.below hb); have HX8 := Lib.hid (blk_below HX7.out hb); have HK8 := Lib.hid (And.intro (Kd.C_below HK7.out.1 hb) (And.intro HK7.out.2.1 (And.intro (Kd.C_below HK7.out.2.2.1 hb) HK7.out.2.2.2))); have HG08 := Lib.hid (grS_below hb HG07.out); have HG18 := Lib.hid (grC_below hb HG17.out); clear hb hR hbi hrb z0 z1 z2)
  clear HSt7 HX7 HK7 HG07 HG17
  have d2 : (b7 != b7) = false := bne_self_eq_false _
  obtain ⟨s3, hs3⟩ : ∃ s3, s3 = w7.heap.size := ⟨_, rfl⟩
  have HPh8 : Hid (Ph s1 s2 s3 g6 E0 f0 l0 E1 f1 L1 a2 (.slice V7 r.length m7) r w8) := Lib.hid ⟨HX8.out, HK8.out.1, HK8.out.2.2.1, HG08.out, HG18.out, by rw [hs3]; exact HR7.out⟩
  have HL := Lib.hid (And.intro HK8.out.2.1 HK8.out.2.2.2)
  have HS3 : Hid (s2 ≤ s3 ∧ s1 ≤ s2) := Lib.hid (by rw [hs3]; exact HS2.out)
  clear hs3 HX8 HK8 HG08 HG18 HR7 HS2
  go_upto_region 10 with (go_at_call 13; refine (eqB_c V7 m7 V4 m4 r w8 hrl (Kd.R_reads' HPh8.out.2.2.2.2.2).2.2 (Kd.R_reads' HPh8.out.2.2.2.2.2).2.1 (Kd.R_reads' HSt8.out.2.2.2.2.2).2.2 (Kd.R_reads' HSt8.out.2.2.2.2.2).2.1).mono ?_; rintro e w9 ⟨rfl, hb⟩; have HSt9 := Lib.hid (HSt8.out.below hb); have HPh9 := Lib.hid (HPh8.out.below hb); clear hb)
  clear HSt8 HPh8
  have HSt0 := Lib.hid (HSt9.out.below (below_drew1 (Below.refl _ _)))
  have HPh0 := Lib.hid (HPh9.out.below (below_drew1 (Below.refl _ _)))
  clear HSt9 HPh9
  go_region_held_law (fun w' => w'.cell? ⟨g6, 0, none⟩ = some (.slice E0 l0.length f0) ∧ w'.cell? ⟨g6, 1, none⟩ = some (.slice E1 L1.length f1) ∧ w'.cell? ⟨g6, 2, none⟩ = some (.int .i64 a2) ∧ w'.cell? ⟨gb, 0, none⟩ = some (.slice A0 l0.length c0) ∧ w'.cell? ⟨gb, 1, none⟩ = some (.slice A1 l1.length c1) ∧ w'.cell? ⟨gb, 2, none⟩ = some (.int .i64 a2)) (first | exact six HSt0.out HPh0.out | exact six HSt10.out HPh10.out | exact six HSt11.out HPh11.out) (first
    | (go_at_call 8; refine (HT.out _ HSt0.out.1).mono ?_; rintro e w10 ⟨F0, h0, F1, h1, rfl, k0, g0, k1, g1, _, _, hb⟩; have HK10 := Lib.hid (And.intro k0 (And.intro g0 (And.intro k1 g1))); have HSt10 := Lib.hid (HSt0.out.below hb); have HPh10 := Lib.hid (HPh0.out.below hb); clear k0 g0 k1 g1 hb)
    | (go_at_call 10; refine (HE.out E0 f0 E1 f1 F0 h0 F1 h1 w10 HPh10.out.2.1 HL.out.1 HPh10.out.2.2.1 HL.out.2 HK10.out.1 HK10.out.2.1 HK10.out.2.2.1 HK10.out.2.2.2).mono ?_; rintro e w11 ⟨rfl, hb⟩; have HSt11 := Lib.hid (HSt10.out.below hb); have HPh11 := Lib.hid (HPh10.out.below hb); clear hb))
  clear HSt0 HPh0 HSt10 HPh10 HK10 HE
  obtain ⟨z0, z1, z2, _⟩ := six HSt11.out HPh11.out
  have hold : ∀ g, Made s1 s2 g → g < w11.heap.size := fun g hg => by
    have h1 := hg.2
    have h2 := HS3.out.1
    have h3 := (Kd.R_bound HPh11.out.2.2.2.2.2)
    have h4 := blk_lt HPh11.out.1
    have h5 := HG6o.out
    omega
  go_upto_region 14 with (go_at_call 14; refine (markImage_c (Made s1 s2) w11 _ _ l0.length L1.length a2 _ HPh11.out.2.2.2.1 HPh11.out.2.2.2.2.1 hn0 hn1 (by omega) (by omega) hold).mono ?_; rintro e w12 ⟨q, rfl, hq, wm, hb, hs⟩; have hst := (HSt11.out.below hb).sim hs (fun k hk => hk.1); have h7 := Kd.R_move (Kd.R_below HPh11.out.2.2.2.2.2 hb) (fun k hk => hs.far k (fun hf => by have h1 := hf.2; have hk : s3 ≤ k := hk; have h2 := HS3.out.1; omega)); have HSt12 := Lib.hid hst; have HR12 := Lib.hid h7; have hqn : decide (q < 0) = false := decide_eq_false (by omega); clear hst h7 hb hs hq z0 z1 z2 hold)
  clear HSt11 HPh11 HL
  go_upto_region 17 with (go_at_call 13; refine (eqB_c V7 m7 V4 m4 r w12 hrl (Kd.R_reads' HR12.out).2.2 (Kd.R_reads' HR12.out).2.1 (Kd.R_reads' HSt12.out.2.2.2.2.2).2.2 (Kd.R_reads' HSt12.out.2.2.2.2.2).2.1).mono ?_; rintro e w13 ⟨rfl, hb⟩; have HSt13 := Lib.hid (HSt12.out.below hb); have HR13 := Lib.hid (Kd.R_below HR12.out hb); clear hb)
  clear HSt12 HR12 hqn
  have HM : Hid (Calls Try.prog 15 #[.slice V7 r.length m7, .int .i64 1] w13 (fun e w' => e = .returned (.int .i64 (1 + r.length)) ∧ St w gb s1 #[.slice A0 l0.length c0, .slice A1 l1.length c1, .int .i64 a2] (.slice V4 r.length m4) r w' ∧ Kd.R (Kd.int .u8) 5 w' s3 (fun k => s3 ≤ k) (.slice V7 r.length m7) (upB 1 r.length))) := Lib.hid (by
    obtain ⟨t, rfl, K, hK⟩ := mark_tells r hrl 1 (by omega)
    have hbase : ∀ k, (Value.slice V7 r.length m7).ownBlock = some k → s3 ≤ k := fun k hk => HR13.out.1 k hk
    have hs13 : w.heap.size ≤ s3 := by have h1 := HSt13.out.2.1; have h2 := HSt13.out.2.2.1; have h3 := HS3.out; omega
    refine (laws_markByteS.calls K (fun k => some k = (Value.slice V7 r.length m7).ownBlock) (.slice V7 r.length m7) r 1 (1 + r.length) (upB 1 r.length) w w13 HSt13.out.1 (Kd.R_tight rfl (Kd.R_lower HR13.out hs13)) (hK K (Nat.le_refl _))).mono ?_
    rintro e w' ⟨rfl, hR, hb, hk⟩
    have hK2 : Kept w13 w' (fun k => some k = (Value.slice V7 r.length m7).ownBlock) := hk
    refine ⟨rfl, HSt13.out.kept hb hK2 (fun k hk => by have h1 := hbase k hk.symm; have h2 := HS3.out; omega), ?_⟩
    obtain ⟨_, inner, ho, hr⟩ := hR
    exact ⟨fun k hk => hbase k hk, inner, ⟨ho.1, ho.2.imp id (fun ⟨g, cap, cur, hv, _, rest⟩ => ⟨g, cap, cur, hv, hbase g (by rw [hv]; rfl), rest⟩)⟩, hr.imp_ (fun _ _ hp => hp)⟩)
  go_upto_region 19 with (go_at_call 15; refine HM.out.mono ?_; rintro e w14 ⟨rfl, hst, h7⟩; have HSt14 := Lib.hid hst; have HR14 := Lib.hid h7; clear hst h7)
  clear HM HSt13 HR13
  have d3 : decide ((1 : Int) + r.length < 0) = false := decide_eq_false (by omega)
  have d4 : ((1 : Int) + r.length != 1 + r.length) = false := bne_self_eq_false _
  go_upto_region 24 with (go_at_call 16; refine (held_c V7 m7 r.length w14 hrl (by have := (Kd.R_reads' HR14.out).2.2; rw [upB_len] at this; exact this) (Kd.R_reads' HR14.out).2.1).mono ?_; rintro e w15 ⟨rfl, hb⟩; have HSt15 := Lib.hid (HSt14.out.below hb); have HR15 := Lib.hid (Kd.R_below HR14.out hb); clear hb)
  clear HSt14 HR14
  obtain ⟨y0, y1, y2⟩ := HSt15.out.box
  go_upto_region 25 with (first
    | (go_at_call 8; refine (HT.out _ HSt15.out.1).mono ?_; rintro e w16 ⟨G0, g0, G1, g1, rfl, k0, l0', k1, l1', _, _, hb⟩; have HIm := Lib.hid (imgBytes_c G0 g0 l0 G1 g1 L1 a2 w16 k0 k1 HS.out); have HSt16 := Lib.hid (HSt15.out.below hb); have HR16 := Lib.hid (Kd.R_below HR15.out hb); clear k0 l0' k1 l1' hb y0 y1 y2)
    | (go_at_call 12; refine HIm.out.mono ?_; rintro e w17 ⟨v9, b9, rfl, hbi, hR, hb⟩; obtain ⟨hb9, hrb⟩ := HRr.out b9 hbi; rw [hrb] at hR; subst hb9; obtain ⟨V9, m9, e9, _, _⟩ := Kd.R_reads hR; subst e9; have HR9 := Lib.hid hR; have HSt17 := Lib.hid (HSt16.out.below hb); have HR17 := Lib.hid (Kd.R_below HR16.out hb); clear hb hR hbi hrb))
  clear HSt15 HR15 HSt16 HR16 HIm
  have d5 : (b9 != b9) = false := bne_self_eq_false _
  go_upto_region 28 with (go_at_call 13; refine (eqB_c V9 m9 V4 m4 r w17 hrl (Kd.R_reads' HR9.out).2.2 (Kd.R_reads' HR9.out).2.1 (Kd.R_reads' HSt17.out.2.2.2.2.2).2.2 (Kd.R_reads' HSt17.out.2.2.2.2.2).2.1).mono ?_; rintro e w18 ⟨rfl, hb⟩; have HSt18 := Lib.hid (HSt17.out.below hb); have HR18 := Lib.hid (Kd.R_below HR17.out hb); clear hb)
  clear HSt17 HR17 HR9
  go_wp2_with (go_at_call 16; refine (held_c V7 m7 r.length w18 hrl (by have := (Kd.R_reads' HR18.out).2.2; rw [upB_len] at this; exact this) (Kd.R_reads' HR18.out).2.1).mono ?_; rintro e w19 ⟨rfl, hb⟩; have HSt19 := Lib.hid (HSt18.out.below hb); clear hb)
  go_ret
  exact ⟨rfl, HSt19.out.1⟩

end Go.Proofs.Ytkfeoilnhpfknaa.ImFnExactImageBytes
