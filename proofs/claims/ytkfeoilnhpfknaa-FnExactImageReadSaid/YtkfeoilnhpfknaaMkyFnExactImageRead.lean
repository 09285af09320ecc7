/- The contracts of the law's marks over an image, with what they write. -/
import Derived.Test.YtkfeoilnhpfknaaRdmFnExactImageRead
import Derived.Test.YtkfeoilnhpfknaaMkpFnExactImageRead
section
namespace Go.Proofs.Ytkfeoilnhpfknaa.ImFnExactImageRead
open Go.RowKit Go.Proofs.Ytkfeoilnhpfknaa.QFnExactImageRead Go.Proofs.YtkfeoilnhpfknaaW.PrintWords Go.Proofs.YtkfeoilnhpfknaaW.PrintLast
open Go.Proofs.Ytkfeoilnhpfknaa.MkpFnExactImageRead (mk cnt mpart mB mI mX mM mM1 cM mC mC1 cC mS ShortC)
set_option linter.unusedVariables false
set_option linter.unusedSimpArgs false

def Own (u : Value) (k : Nat) : Prop := some k = u.ownBlock
theorem own_R {α : Type} {d : Kd α} {e base : Nat} {ok : Nat → Prop} {w : World} {u : Value} {xs : List α} (h : Kd.R d e w base ok u xs) : ∀ k, Own u k → ok k := fun k hk => h.1 k hk.symm
theorem Kept.grown {w w1 : World} {P : Nat → Prop} {g : Nat} (h : w.grownBy w1 (some g)) (hg : P g) : Kept w w1 P := ⟨h.size, fun k hk hn => h.block k hk (fun e => hn (by injection e with e; rw [e]; exact hg))⟩
theorem Kept.tr {w w1 w2 : World} {P : Nat → Prop} (h : Kept w w1 P) (k : Kept w1 w2 P) : Kept w w2 P := ⟨Nat.le_trans h.1 k.1, fun i hi hn => (k.2 i (Nat.lt_of_lt_of_le hi h.1) hn).trans (h.2 i hi hn)⟩
theorem Kept.sub {w w1 : World} {P P' : Nat → Prop} (h : Kept w w1 P) (hp : ∀ k, P k → P' k) : Kept w w1 P' := ⟨h.1, fun i hi hn => h.2 i hi (fun hk => hn (hp i hk))⟩

theorem lendS {W : World} {base g n cap : Nat} {P : Nat → Prop} {xs : List (List Bool)} (h : Kd.S (Kd.slice 4 Kd.bool) 55 W base P (.slice (some ⟨g, 0, none⟩) n cap) xs) (i : Nat) (hi : i < n) :
    ∃ u, W.cell? ⟨g, i, none⟩ = some u ∧ Kd.R Kd.bool 4 W base (Own u) u (xs.getD i []) ∧ (∀ k, Own u k → P k) ∧ ∀ W1 ys, Kept W W1 (Own u) → Kd.R Kd.bool 4 W1 base (Own u) u ys → Kd.S (Kd.slice 4 Kd.bool) 55 W1 base P (.slice (some ⟨g, 0, none⟩) n cap) (xs.set i ys) := by
  obtain ⟨oki, c, hcl, hM, hcc, hoki, hH⟩ := Kd.S_lend h [] (i : Int) (by omega) (by omega)
  rw [Int.toNat_natCast] at hM hcc
  obtain ⟨u, rfl, hR⟩ := hM
  have hz := hcc 0 u rfl
  have e1 : i * (Kd.slice 4 Kd.bool).sz + 0 = i := by show i * 1 + 0 = i; omega
  rw [e1] at hz
  refine ⟨u, hz, Kd.R_tight rfl hR, fun k hk => (hoki k (own_R hR k hk)).1, fun W1 ys hk hR1 => ?_⟩
  have hH1 := Kd.H_step hH (w1 := W1) (fun k _ hn hlt => hk.2 k hlt (fun e => hn (own_R hR k e)))
  have hb := Kd.H_back hH1 (x' := ys) (okp := Own u) ⟨u, rfl, hR1⟩ (own_R hR)
  rw [Int.toNat_natCast] at hb
  exact hb
theorem putM {W : World} {base g n cap : Nat} {P : Nat → Prop} {xs : List S72} (h : Kd.S k72 72 W base P (.slice (some ⟨g, 0, none⟩) n cap) xs) (i : Nat) (hi : i < n) (q : Int) :
    (∃ z, W.cell? ⟨g, i * 2, none⟩ = some (.int .i64 z)) ∧ W.frozen? ⟨g, i * 2, none⟩ = false ∧ Kd.S k72 72 (W.setCell ⟨g, i * 2, none⟩ (.int .i64 q)) base P (.slice (some ⟨g, 0, none⟩) n cap) (xs.set i ⟨q, (xs.getD i z72).f1⟩) ∧ W.grownBy (W.setCell ⟨g, i * 2, none⟩ (.int .i64 q)) (some g) := by
  have h' : Kd.S k72 72 W base (fun k => P k ∧ ¬ False) (.slice (some ⟨g, 0, none⟩) n cap) xs := Kd.S_mono h (fun _ hk => ⟨hk, id⟩)
  obtain ⟨oki, c, hcl, hM, hcc, hfr, hoki, hH⟩ := Kd.S_elem h' z72 (i : Int) (by omega) (by omega)
  rw [Int.toNat_natCast] at hM hcc hfr
  obtain ⟨v1, rfl, hR⟩ := k72_openM hM
  have hs := Kd.S_seg (okg := fun _ => False) (ok := P) hH (by omega) (by omega) (seg := [.int .i64 q]) (j := 0) (show 0 + 1 ≤ 2 by decide) (x' := ⟨q, (xs.getD i z72).f1⟩) (okp := oki) (k72_mkM W base oki ⟨q, (xs.getD i z72).f1⟩ hR) (fun _ hk => .inl hk) (fun _ hk => hk.elim)
  rw [Int.toNat_natCast] at hs
  exact ⟨⟨_, hcc 0 _ rfl⟩, hfr 0, hs⟩
theorem lendM {W : World} {base g n cap : Nat} {P : Nat → Prop} {xs : List S72} (h : Kd.S k72 72 W base P (.slice (some ⟨g, 0, none⟩) n cap) xs) (i : Nat) (hi : i < n) :
    ∃ u, W.cell? ⟨g, i * 2 + 1, none⟩ = some u ∧ Kd.R (Kd.int .i64) 3 W base (Own u) u (xs.getD i z72).f1 ∧ (∀ k, Own u k → P k) ∧ ∀ W1 ys, Kept W W1 (Own u) → Kd.R (Kd.int .i64) 3 W1 base (Own u) u ys → Kd.S k72 72 W1 base P (.slice (some ⟨g, 0, none⟩) n cap) (xs.set i ⟨(xs.getD i z72).f0, ys⟩) := by
  obtain ⟨oki, c, hcl, hM, hcc, hoki, hH⟩ := Kd.S_lend h z72 (i : Int) (by omega) (by omega)
  rw [Int.toNat_natCast] at hM hcc
  obtain ⟨u, rfl, hR⟩ := k72_openM hM
  refine ⟨u, hcc 1 u rfl, Kd.R_tight rfl hR, fun k hk => (hoki k (own_R hR k hk)).1, fun W1 ys hk hR1 => ?_⟩
  have hH1 := Kd.H_step hH (w1 := W1) (fun k _ hn hlt => hk.2 k hlt (fun e => hn (own_R hR k e)))
  have hb := Kd.H_back hH1 (x' := ⟨(xs.getD i z72).f0, ys⟩) (okp := Own u) (k72_mkM W1 base (Own u) ⟨(xs.getD i z72).f0, ys⟩ hR1) (own_R hR)
  rw [Int.toNat_natCast] at hb
  exact hb
theorem putC0 {W : World} {base g n cap : Nat} {P : Nat → Prop} {xs : List S53} (h : Kd.S k53s 53 W base P (.slice (some ⟨g, 0, none⟩) n cap) xs) (i : Nat) (hi : i < n) (q : Int) :
    (∃ z, W.cell? ⟨g, i * 4, none⟩ = some (.int .i64 z)) ∧ W.frozen? ⟨g, i * 4, none⟩ = false ∧ Kd.S k53s 53 (W.setCell ⟨g, i * 4, none⟩ (.int .i64 q)) base P (.slice (some ⟨g, 0, none⟩) n cap) (xs.set i ⟨q, (xs.getD i z53).f1, (xs.getD i z53).f2, (xs.getD i z53).f3⟩) ∧ W.grownBy (W.setCell ⟨g, i * 4, none⟩ (.int .i64 q)) (some g) := by
  have h' : Kd.S k53s 53 W base (fun k => P k ∧ ¬ False) (.slice (some ⟨g, 0, none⟩) n cap) xs := Kd.S_mono h (fun _ hk => ⟨hk, id⟩)
  obtain ⟨oki, c, hcl, hM, hcc, hfr, hoki, hH⟩ := Kd.S_elem h' z53 (i : Int) (by omega) (by omega)
  rw [Int.toNat_natCast] at hM hcc hfr
  obtain ⟨v2, v3, rfl, h2, h3⟩ := k53s_openM hM
  have hs := Kd.S_seg (okg := fun _ => False) (ok := P) hH (by omega) (by omega) (seg := [.int .i64 q]) (j := 0) (show 0 + 1 ≤ 4 by decide) (x' := ⟨q, (xs.getD i z53).f1, (xs.getD i z53).f2, (xs.getD i z53).f3⟩) (okp := oki) (k53s_mkM W base oki ⟨q, (xs.getD i z53).f1, (xs.getD i z53).f2, (xs.getD i z53).f3⟩ h2 h3) (fun _ hk => .inl hk) (fun _ hk => hk.elim)
  rw [Int.toNat_natCast] at hs
  exact ⟨⟨_, hcc 0 _ rfl⟩, hfr 0, hs⟩
theorem putC1 {W : World} {base g n cap : Nat} {P : Nat → Prop} {xs : List S53} (h : Kd.S k53s 53 W base P (.slice (some ⟨g, 0, none⟩) n cap) xs) (i : Nat) (hi : i < n) (q : Int) :
    (∃ z, W.cell? ⟨g, i * 4 + 1, none⟩ = some (.int .i64 z)) ∧ W.frozen? ⟨g, i * 4 + 1, none⟩ = false ∧ Kd.S k53s 53 (W.setCell ⟨g, i * 4 + 1, none⟩ (.int .i64 q)) base P (.slice (some ⟨g, 0, none⟩) n cap) (xs.set i ⟨(xs.getD i z53).f0, q, (xs.getD i z53).f2, (xs.getD i z53).f3⟩) ∧ W.grownBy (W.setCell ⟨g, i * 4 + 1, none⟩ (.int .i64 q)) (some g) := by
  have h' : Kd.S k53s 53 W base (fun k => P k ∧ ¬ False) (.slice (some ⟨g, 0, none⟩) n cap) xs := Kd.S_mono h (fun _ hk => ⟨hk, id⟩)
  obtain ⟨oki, c, hcl, hM, hcc, hfr, hoki, hH⟩ := Kd.S_elem h' z53 (i : Int) (by omega) (by omega)
  rw [Int.toNat_natCast] at hM hcc hfr
  obtain ⟨v2, v3, rfl, h2, h3⟩ := k53s_openM hM
  have hs := Kd.S_seg (okg := fun _ => False) (ok := P) hH (by omega) (by omega) (seg := [.int .i64 q]) (j := 1) (show 1 + 1 ≤ 4 by decide) (x' := ⟨(xs.getD i z53).f0, q, (xs.getD i z53).f2, (xs.getD i z53).f3⟩) (okp := oki) (k53s_mkM W base oki ⟨(xs.getD i z53).f0, q, (xs.getD i z53).f2, (xs.getD i z53).f3⟩ h2 h3) (fun _ hk => .inl hk) (fun _ hk => hk.elim)
  rw [Int.toNat_natCast] at hs
  exact ⟨⟨_, hcc 1 _ rfl⟩, hfr 1, hs⟩
theorem lendC2 {W : World} {base g n cap : Nat} {P : Nat → Prop} {xs : List S53} (h : Kd.S k53s 53 W base P (.slice (some ⟨g, 0, none⟩) n cap) xs) (i : Nat) (hi : i < n) :
    ∃ u, W.cell? ⟨g, i * 4 + 2, none⟩ = some u ∧ Kd.R k68 68 W base (Own u) u (xs.getD i z53).f2 ∧ (∀ k, Own u k → P k) ∧ ∀ W1 ys, Kept W W1 (Own u) → Kd.R k68 68 W1 base (Own u) u ys → Kd.S k53s 53 W1 base P (.slice (some ⟨g, 0, none⟩) n cap) (xs.set i ⟨(xs.getD i z53).f0, (xs.getD i z53).f1, ys, (xs.getD i z53).f3⟩) := by
  obtain ⟨oki, c, hcl, hM, hcc, hoki, hH⟩ := Kd.S_lend h z53 (i : Int) (by omega) (by omega)
  rw [Int.toNat_natCast] at hM hcc
  obtain ⟨u, v3, rfl, hR, h3⟩ := k53s_openM hM
  refine ⟨u, hcc 2 u rfl, Kd.R_tight rfl hR, fun k hk => (hoki k (own_R hR k hk)).1, fun W1 ys hk hR1 => ?_⟩
  have hH1 := Kd.H_step hH (w1 := W1) (fun k _ hn hlt => hk.2 k hlt (fun e => hn (own_R hR k e)))
  have h31 : Kd.S k72 72 W1 base oki v3 (xs.getD i z53).f3 := Kd.S_mono (Kd.S_step (Kd.S_apart' h3 (Kd.R_typed hR) (by decide)) (fun k hk' hlt => hk.2 k hlt (fun e => hk'.2 e))) (fun _ hk' => hk'.1)
  have hb := Kd.H_back hH1 (x' := ⟨(xs.getD i z53).f0, (xs.getD i z53).f1, ys, (xs.getD i z53).f3⟩) (okp := oki) (k53s_mkM W1 base oki ⟨(xs.getD i z53).f0, (xs.getD i z53).f1, ys, (xs.getD i z53).f3⟩ (Kd.R_mono hR1 (own_R hR)) h31) (fun _ hk' => hk')
  rw [Int.toNat_natCast] at hb
  exact hb
theorem lendC3 {W : World} {base g n cap : Nat} {P : Nat → Prop} {xs : List S53} (h : Kd.S k53s 53 W base P (.slice (some ⟨g, 0, none⟩) n cap) xs) (i : Nat) (hi : i < n) :
    ∃ u P3, W.cell? ⟨g, i * 4 + 3, none⟩ = some u ∧ Kd.S k72 72 W base P3 u (xs.getD i z53).f3 ∧ (∀ k, P3 k → P k) ∧ ∀ W1 ys, Kept W W1 P3 → Kd.S k72 72 W1 base P3 u ys → Kd.S k53s 53 W1 base P (.slice (some ⟨g, 0, none⟩) n cap) (xs.set i ⟨(xs.getD i z53).f0, (xs.getD i z53).f1, (xs.getD i z53).f2, ys⟩) := by
  obtain ⟨oki, c, hcl, hM, hcc, hoki, hH⟩ := Kd.S_lend h z53 (i : Int) (by omega) (by omega)
  rw [Int.toNat_natCast] at hM hcc
  obtain ⟨v2, u, rfl, h2, h3⟩ := k53s_openM hM
  refine ⟨u, fun k => oki k ∧ some k ≠ v2.ownBlock, hcc 3 u rfl, Kd.S_apart' h3 (Kd.R_typed h2) (by decide), fun k hk => (hoki k hk.1).1, fun W1 ys hk hS1 => ?_⟩
  have hH1 := Kd.H_step hH (w1 := W1) (fun k _ hn hlt => hk.2 k hlt (fun e => hn e.1))
  have h21 : Kd.R k68 68 W1 base oki v2 (xs.getD i z53).f2 := Kd.R_mono (Kd.R_step (Kd.R_tight rfl h2) (fun k hk' hlt => hk.2 k hlt (fun e => e.2 hk'))) (own_R h2)
  have hb := Kd.H_back hH1 (x' := ⟨(xs.getD i z53).f0, (xs.getD i z53).f1, (xs.getD i z53).f2, ys⟩) (okp := oki) (k53s_mkM W1 base oki ⟨(xs.getD i z53).f0, (xs.getD i z53).f1, (xs.getD i z53).f2, ys⟩ h21 (Kd.S_mono hS1 (fun _ hk' => hk'.1))) (fun _ hk' => hk')
  rw [Int.toNat_natCast] at hb
  exact hb
/-- A leaf that was marked by a call: its blocks are still its own one. -/
theorem leafB {w w' : World} {base : Nat} {P : Nat → Prop} {u : Value} {ys : List Bool} (h : Kd.R Kd.bool 4 w' base (fun k => P k ∨ w.heap.size ≤ k) u ys) : Kd.R Kd.bool 4 w' base (Own u) u ys := Kd.R_tight rfl h
theorem leafI {w w' : World} {base : Nat} {P : Nat → Prop} {u : Value} {ys : List Int} (h : Kd.R (Kd.int .i64) 3 w' base (fun k => P k ∨ w.heap.size ≤ k) u ys) : Kd.R (Kd.int .i64) 3 w' base (Own u) u ys := Kd.R_tight rfl h
theorem leafX {w w' : World} {base : Nat} {P : Nat → Prop} {u : Value} {ys : List S68} (h : Kd.R k68 68 w' base (fun k => P k ∨ w.heap.size ≤ k) u ys) : Kd.R k68 68 w' base (Own u) u ys := Kd.R_tight rfl h

def Mks {α : Type} (d : Kd α) (t : Nat) (w0 w : World) (P : Nat → Prop) (v : Value) (r : List α) (K : Int) (e : Ending) (w' : World) : Prop := e = .returned (.int .i64 K) ∧ Kd.S d t w' w0.heap.size P v r ∧ Below w0.heap.size w0 w' ∧ Kept w w' P

theorem markB_c (w0 w : World) (u : Value) (l : List Bool) (k : Int) (hB : Below w0.heap.size w0 w) (hR : Kd.R Kd.bool 4 w w0.heap.size (Own u) u l) (hl : l.length ≤ 1048576) (h0 : 0 ≤ k) (h1 : k ≤ 4611686018427387904) :
    Calls Try.prog 62 #[u, .int .i64 k] w (fun e w' => e = .returned (.int .i64 (k + l.length)) ∧ Kd.R Kd.bool 4 w' w0.heap.size (Own u) u (mB k l) ∧ Below w0.heap.size w0 w' ∧ Kept w w' (Own u)) := by
  obtain ⟨r, rfl, K, hK⟩ := Go.Proofs.Ytkfeoilnhpfknaa.MkpFnExactImageRead.markB_tells l hl k h0 h1
  refine (laws_markBoolS.calls K (Own u) u l k _ _ w0 w hB hR (hK K (Nat.le_refl _))).mono ?_
  rintro e w' ⟨rfl, h2, h3, h4⟩
  exact ⟨rfl, leafB h2, h3, h4⟩
theorem markI_c (w0 w : World) (u : Value) (l : List Int) (k : Int) (hB : Below w0.heap.size w0 w) (hR : Kd.R (Kd.int .i64) 3 w w0.heap.size (Own u) u l) (hl : l.length ≤ 1048576) (h0 : 0 ≤ k) (h1 : k ≤ 4611686018427387904) :
    Calls Try.prog 79 #[u, .int .i64 k] w (fun e w' => e = .returned (.int .i64 (k + l.length)) ∧ Kd.R (Kd.int .i64) 3 w' w0.heap.size (Own u) u (mI k l) ∧ Below w0.heap.size w0 w' ∧ Kept w w' (Own u)) := by
  obtain ⟨r, rfl, K, hK⟩ := Go.Proofs.Ytkfeoilnhpfknaa.MkpFnExactImageRead.markI_tells l hl k h0 h1
  refine (laws_markIntS.calls K (Own u) u l k _ _ w0 w hB hR (hK K (Nat.le_refl _))).mono ?_
  rintro e w' ⟨rfl, h2, h3, h4⟩
  exact ⟨rfl, leafI h2, h3, h4⟩
theorem markX_c (w0 w : World) (u : Value) (l : List S68) (k : Int) (hB : Below w0.heap.size w0 w) (hR : Kd.R k68 68 w w0.heap.size (Own u) u l) (hl : l.length ≤ 1048576) (h0 : 0 ≤ k) (h1 : k ≤ 4611686018427387904) :
    Calls Try.prog 63 #[u, .int .i64 k] w (fun e w' => e = .returned (.int .i64 (k + (5 * l.length : Nat))) ∧ Kd.R k68 68 w' w0.heap.size (Own u) u (mX k l) ∧ Below w0.heap.size w0 w' ∧ Kept w w' (Own u)) := by
  obtain ⟨r, rfl, K, hK⟩ := Go.Proofs.Ytkfeoilnhpfknaa.MkpFnExactImageRead.markX_tells l hl k h0 h1
  refine (laws_markInsS.calls K (Own u) u l k _ _ w0 w hB hR (hK K (Nat.le_refl _))).mono ?_
  rintro e w' ⟨rfl, h2, h3, h4⟩
  exact ⟨rfl, leafX h2, h3, h4⟩

end Go.Proofs.Ytkfeoilnhpfknaa.ImFnExactImageRead
end
section
namespace Go.Proofs.Ytkfeoilnhpfknaa.ImFnExactImageRead
open Go.RowKit Go.Proofs.Ytkfeoilnhpfknaa.QFnExactImageRead Go.Proofs.YtkfeoilnhpfknaaW.PrintWords Go.Proofs.YtkfeoilnhpfknaaW.PrintLast
open Go.Proofs.Ytkfeoilnhpfknaa.MkpFnExactImageRead (mk cnt mpart mB mI mX mM mM1 cM mC mC1 cC mS ShortC part_0 part_all part_len part_get part_set cnt_take cnt_le cnt_most cC_le)
set_option linter.unusedVariables false
set_option linter.unusedSimpArgs false

set_option maxHeartbeats 8000000 in
set_option maxRecDepth 100000 in
theorem markS_m (w0 w : World) (P : Nat → Prop) (v : Value) (l : List (List Bool)) (k : Int) (hB : Below w0.heap.size w0 w) (hS : Kd.S (Kd.slice 4 Kd.bool) 55 w w0.heap.size P v l) (hl : l.length ≤ 1048576) (hs : ∀ s ∈ l, s.length ≤ 1048576) (h0 : 0 ≤ k) (h1 : k ≤ 1125899906842624) :
    Calls Try.prog 34 #[v, .int .i64 k] w (Mks (Kd.slice 4 Kd.bool) 55 w0 w P v (mS k l) (k + cnt List.length l)) := by
  have hall := cnt_most (ce := List.length) 1048576 l hs
  have HS := Lib.hid (show Kd.S (Kd.slice 4 Kd.bool) 55 w w0.heap.size P v (mpart mB List.length k l 0) from by rw [part_0]; exact hS)
  have HB := Lib.hid hB
  have HK := Lib.hid (Kept.refl w P)
  have HM := Lib.hid hs
  have HPl := Lib.hid (fun i (hi : i ≤ l.length) => part_len (me := mB) (ce := List.length) k l i hi)
  obtain ⟨n, hn⟩ : ∃ n, n = l.length := ⟨_, rfl⟩
  have HN := Lib.hid hn
  obtain ⟨A, c, e⟩ := Kd.S_slice hS
  rw [← hn] at e
  subst e
  have HV : Hid (0 < n → ∃ g, A = some ⟨g, 0, none⟩) := Lib.hid (fun h => by
    obtain ⟨g, _, e, _⟩ := Kd.S_form hS (by omega)
    injection e with e _ _
    exact ⟨g, e⟩)
  have hn2 : n ≤ 1048576 := by omega
  clear hB hS hs hn
  go_enter Try.func34, Try.ntmps34
  go_wp2
  go_loopw [1, 5] (fun v1 v5 wr => ∃ (i : Nat) (q : Int), v5 = .int .i64 i ∧ v1 = .int .i64 q ∧ i ≤ n ∧ Hid (q = k + cnt List.length (l.take i)) ∧ Hid (Kd.S (Kd.slice 4 Kd.bool) 55 wr w0.heap.size P (.slice A n c) (mpart mB List.length k l i)) ∧ Hid (Below w0.heap.size w0 wr) ∧ Hid (Kept w wr P)) (fun _ v5 _ => (n - intOf v5).toNat)
  case atStart => exact ⟨0, k, rfl, rfl, Nat.zero_le _, Lib.hid (by rw [List.take_zero]; show k = k + ((0 : Nat) : Int); omega), HS, HB, HK⟩
  case round =>
    clear HS HB HK
    obtain ⟨i, q, rfl, rfl, hi, HQ, HS, HB, HK⟩ := hrel
    by_cases hlt : i < n
    · have p0 : (0 : Int) ≤ (i : Int) := by omega
      have p1 : (i : Int) < (n : Int) := by omega
      obtain ⟨g, rfl⟩ := HV.out (by omega)
      have hil : i < l.length := by rw [← HN.out]; exact hlt
      obtain ⟨u, z0, hR, hP, hback⟩ := lendS HS.out i hlt
      rw [part_get k l [] i hil] at hR
      have hct := cnt_take (ce := List.length) l i hil
      have hle := cnt_le (ce := List.length) l (i + 1)
      have hq := HQ.out
      have hq0 : 0 ≤ q := by omega
      have hq1 : q ≤ 4611686018427387904 := by omega
      have hsl := HM.out l[i] (List.getElem_mem hil)
      have HC := Lib.hid (markB_c w0 wr u l[i] q HB.out hR hsl hq0 hq1)
      have HBk := Lib.hid hback
      have HPu := Lib.hid hP
      have HE : Hid (q + (l[i].length : Int) = k + cnt List.length (l.take (i + 1))) := Lib.hid (by omega)
      obtain ⟨nu, Au, cu, eu⟩ : ∃ n A c, u = .slice A n c := by obtain ⟨A, c, h⟩ := Kd.R_slice hR; exact ⟨_, A, c, h⟩
      subst eu
      obtain ⟨m, hm⟩ : ∃ m : Nat, m = l[i].length := ⟨_, rfl⟩
      rw [← hm] at HC HE
      have hm1 : m ≤ 1048576 := by omega
      clear hR hP hback hct hle hq hsl hm
      go_wp2_with (go_at_call 62; refine HC.out.mono ?_; rintro e w2 ⟨rfl, h2, h3, h4⟩; have HS2 := Lib.hid (HBk.out w2 _ h4 h2); have HB2 := Lib.hid h3; have HK2 := Lib.hid (Kept.tr HK.out (Kept.sub h4 HPu.out)); clear h2 h3 h4)
      refine ⟨⟨i + 1, q + m, by go_num, rfl, hlt, HE, Lib.hid ?_, HB2, HK2⟩, by simp [intOf]; omega⟩
      have h := HS2.out
      rw [HQ.out, part_set (me := mB) (ce := List.length) k l i hil] at h
      exact h
    · obtain rfl : i = n := by omega
      go_wp2
      go_ret
      refine ⟨(show Ending.returned (.int .i64 q) = _ from by rw [HQ.out, HN.out, List.take_length]), ?_, HB.out, HK.out⟩
      have h := HS.out
      rw [show mpart mB List.length k l i = mS k l from by rw [HN.out]; exact part_all k l] at h
      exact h

set_option maxHeartbeats 8000000 in
set_option maxRecDepth 100000 in
theorem markM_m (w0 w : World) (P : Nat → Prop) (v : Value) (l : List S72) (k : Int) (hB : Below w0.heap.size w0 w) (hS : Kd.S k72 72 w w0.heap.size P v l) (hl : l.length ≤ 1048576) (hs : ∀ p ∈ l, p.f1.length ≤ 1048576) (h0 : 0 ≤ k) (h1 : k ≤ 2305843009213693952) :
    Calls Try.prog 64 #[v, .int .i64 k] w (Mks k72 72 w0 w P v (mM k l) (k + cnt cM l)) := by
  have hall := cnt_most (ce := cM) 1048577 l (fun p hp => by have := hs p hp; unfold cM; omega)
  have HS := Lib.hid (show Kd.S k72 72 w w0.heap.size P v (mpart mM1 cM k l 0) from by rw [part_0]; exact hS)
  have HB := Lib.hid hB
  have HK := Lib.hid (Kept.refl w P)
  have HM := Lib.hid hs
  obtain ⟨n, hn⟩ : ∃ n, n = l.length := ⟨_, rfl⟩
  have HN := Lib.hid hn
  obtain ⟨A, c, e⟩ := Kd.S_slice hS
  rw [← hn] at e
  subst e
  have HV : Hid (0 < n → ∃ g, A = some ⟨g, 0, none⟩ ∧ w0.heap.size ≤ g ∧ P g) := Lib.hid (fun h => by
    obtain ⟨g, _, e, hg, _⟩ := Kd.S_form hS (by omega)
    have hpg := (Kd.S_R hS).1
    rw [e] at hpg
    injection e with e _ _
    exact ⟨g, e, hg, hpg g rfl⟩)
  have hn2 : n ≤ 1048576 := by omega
  clear hB hS hs hn
  go_enter Try.func64, Try.ntmps64
  go_wp2
  go_loopw [1, 5] (fun v1 v5 wr => ∃ (i : Nat) (q : Int), v5 = .int .i64 i ∧ v1 = .int .i64 q ∧ i ≤ n ∧ Hid (q = k + cnt cM (l.take i)) ∧ Hid (Kd.S k72 72 wr w0.heap.size P (.slice A n c) (mpart mM1 cM k l i)) ∧ Hid (Below w0.heap.size w0 wr) ∧ Hid (Kept w wr P)) (fun _ v5 _ => (n - intOf v5).toNat)
  case atStart => exact ⟨0, k, rfl, rfl, Nat.zero_le _, Lib.hid (by rw [List.take_zero]; show k = k + ((0 : Nat) : Int); omega), HS, HB, HK⟩
  case round =>
    clear HS HB HK
    obtain ⟨i, q, rfl, rfl, hi, HQ, HS, HB, HK⟩ := hrel
    by_cases hlt : i < n
    · have p0 : (0 : Int) ≤ (i : Int) := by omega
      have p1 : (i : Int) < (n : Int) := by omega
      obtain ⟨g, rfl, hg, hPg⟩ := HV.out (by omega)
      have hil : i < l.length := by rw [← HN.out]; exact hlt
      obtain ⟨⟨z, z0⟩, f0, hS1, hG1⟩ := putM HS.out i hlt q
      rw [part_get k l z72 i hil] at hS1
      have hct := cnt_take (ce := cM) l i hil
      have hle := cnt_le (ce := cM) l (i + 1)
      have hq := HQ.out
      have hsl := HM.out l[i] (List.getElem_mem hil)
      have hcm : cM l[i] = 1 + l[i].f1.length := rfl
      have hq0 : 0 ≤ q := by omega
      have hq1 : q ≤ 4611686018427387000 := by omega
      have HPut := Lib.hid (And.intro hS1 hG1)
      have HE : Hid (q + 1 + (l[i].f1.length : Int) = k + cnt cM (l.take (i + 1))) := Lib.hid (by omega)
      have hlen : (mpart mM1 cM k l i).length = l.length := part_len k l i (by omega)
      clear hct hle hq hS1 hG1
      go_upto_region 6 with fail
      generalize hW : World.setCell wr _ _ = w1
      rw [hW] at HPut
      obtain ⟨u, z1, hR, hP, hback⟩ := lendM HPut.out.1 i hlt
      have hget : ((mpart mM1 cM k l i).set i (⟨q, l[i].f1⟩ : S72)).getD i z72 = ⟨q, l[i].f1⟩ := by
        rw [List.getD_eq_getElem?_getD, List.getElem?_set_self (by rw [hlen]; exact hil)]; rfl
      rw [hget] at hR hback
      simp only [List.set_set] at hback
      have HB1 := Lib.hid (show Below w0.heap.size w0 w1 from by rw [← hW]; exact below_set HB.out hg)
      have HK1 := Lib.hid (Kept.tr HK.out (Kept.grown HPut.out.2 hPg))
      have HC := Lib.hid (markI_c w0 w1 u l[i].f1 (q + 1) HB1.out hR hsl (by omega) (by omega))
      have HBk := Lib.hid hback
      have HPu := Lib.hid hP
      obtain ⟨nu, Au, cu, eu⟩ : ∃ n A c, u = .slice A n c := by obtain ⟨A, c, h⟩ := Kd.R_slice hR; exact ⟨_, A, c, h⟩
      subst eu
      obtain ⟨m, hm⟩ : ∃ m : Nat, m = l[i].f1.length := ⟨_, rfl⟩
      rw [← hm] at HC HE
      have hm1 : m ≤ 1048576 := by omega
      clear hR hP hback hsl hm hW z0 f0 hget hcm HPut
      go_wp2_with (go_at_call 79; refine HC.out.mono ?_; rintro e w2 ⟨rfl, h2, h3, h4⟩; have HS2 := Lib.hid (HBk.out w2 _ h4 h2); have HB2 := Lib.hid h3; have HK2 := Lib.hid (Kept.tr HK1.out (Kept.sub h4 HPu.out)); clear h2 h3 h4)
      refine ⟨⟨i + 1, q + 1 + m, by go_num, rfl, hlt, HE, Lib.hid ?_, HB2, HK2⟩, by simp [intOf]; omega⟩
      have h := HS2.out
      rw [HQ.out] at h
      have e2 := part_set (me := mM1) (ce := cM) k l i hil
      rw [← e2]
      exact h
    · obtain rfl : i = n := by omega
      go_wp2
      go_ret
      refine ⟨(show Ending.returned (.int .i64 q) = _ from by rw [HQ.out, HN.out, List.take_length]), ?_, HB.out, HK.out⟩
      have h := HS.out
      rw [show mpart mM1 cM k l i = mM k l from by rw [HN.out]; exact part_all k l] at h
      exact h

set_option maxHeartbeats 8000000 in
set_option maxRecDepth 100000 in
theorem markC_m (w0 w : World) (P : Nat → Prop) (v : Value) (l : List S53) (k : Int) (hB : Below w0.heap.size w0 w) (hS : Kd.S k53s 53 w w0.heap.size P v l) (hl : l.length ≤ 1048576) (hs : ∀ c ∈ l, ShortC c) (h0 : 0 ≤ k) (h1 : k ≤ 1125899906842624) :
    Calls Try.prog 35 #[v, .int .i64 k] w (Mks k53s 53 w0 w P v (mC k l) (k + cnt cC l)) := by
  have hall := cnt_most (ce := cC) 1099518836738 l (fun c hc => cC_le (hs c hc))
  have HS := Lib.hid (show Kd.S k53s 53 w w0.heap.size P v (mpart mC1 cC k l 0) from by rw [part_0]; exact hS)
  have HB := Lib.hid hB
  have HK := Lib.hid (Kept.refl w P)
  have HM := Lib.hid hs
  obtain ⟨n, hn⟩ : ∃ n, n = l.length := ⟨_, rfl⟩
  have HN := Lib.hid hn
  obtain ⟨A, c, e⟩ := Kd.S_slice hS
  rw [← hn] at e
  subst e
  have HV : Hid (0 < n → ∃ g, A = some ⟨g, 0, none⟩ ∧ w0.heap.size ≤ g ∧ P g) := Lib.hid (fun h => by
    obtain ⟨g, _, e, hg, _⟩ := Kd.S_form hS (by omega)
    have hpg := (Kd.S_R hS).1
    rw [e] at hpg
    injection e with e _ _
    exact ⟨g, e, hg, hpg g rfl⟩)
  have hn2 : n ≤ 1048576 := by omega
  clear hB hS hs hn
  go_enter Try.func35, Try.ntmps35
  go_wp2
  go_loopw [1, 5] (fun v1 v5 wr => ∃ (i : Nat) (q : Int), v5 = .int .i64 i ∧ v1 = .int .i64 q ∧ i ≤ n ∧ Hid (q = k + cnt cC (l.take i)) ∧ Hid (Kd.S k53s 53 wr w0.heap.size P (.slice A n c) (mpart mC1 cC k l i)) ∧ Hid (Below w0.heap.size w0 wr) ∧ Hid (Kept w wr P)) (fun _ v5 _ => (n - intOf v5).toNat)
  case atStart => exact ⟨0, k, rfl, rfl, Nat.zero_le _, Lib.hid (by rw [List.take_zero]; show k = k + ((0 : Nat) : Int); omega), HS, HB, HK⟩
  case round =>
    clear HS HB HK
    obtain ⟨i, q, rfl, rfl, hi, HQ, HS, HB, HK⟩ := hrel
    by_cases hlt : i < n
    · have p0 : (0 : Int) ≤ (i : Int) := by omega
      have p1 : (i : Int) < (n : Int) := by omega
      obtain ⟨g, rfl, hg, hPg⟩ := HV.out (by omega)
      have hil : i < l.length := by rw [← HN.out]; exact hlt
      have hct := cnt_take (ce := cC) l i hil
      have hle := cnt_le (ce := cC) l (i + 1)
      have hq := HQ.out
      have hsl := HM.out l[i] (List.getElem_mem hil)
      have hcm : cC l[i] = 2 + (5 * l[i].f2.length + cnt cM l[i].f3) := rfl
      have hq0 : 0 ≤ q := by omega
      have hq1 : q ≤ 2305843009000000000 := by omega
      have HE : Hid (q + 2 + ((5 * l[i].f2.length : Nat) : Int) + (cnt cM l[i].f3 : Int) = k + cnt cC (l.take (i + 1))) := Lib.hid (by omega)
      have hlen : (mpart mC1 cC k l i).length = l.length := part_len k l i (by omega)
      have hget : ∀ y, ((mpart mC1 cC k l i).set i y).getD i z53 = y := fun y => by
        rw [List.getD_eq_getElem?_getD, List.getElem?_set_self (by rw [hlen]; exact hil)]; rfl
      have Hget := Lib.hid hget
      obtain ⟨⟨za, z0⟩, f0, hS1, hG1⟩ := putC0 HS.out i hlt q
      rw [part_get k l z53 i hil] at hS1
      have HPut := Lib.hid (And.intro hS1 hG1)
      clear hct hle hq hS1 hG1 hget
      go_upto_region 6 with fail
      generalize hW : World.setCell wr _ _ = w1
      rw [hW] at HPut
      have HB1 := Lib.hid (show Below w0.heap.size w0 w1 from by rw [← hW]; exact below_set HB.out hg)
      have HK1 := Lib.hid (Kept.tr HK.out (Kept.grown HPut.out.2 hPg))
      obtain ⟨⟨zb, z1⟩, f1, hS2, hG2⟩ := putC1 HPut.out.1 i hlt (q + 1)
      rw [Hget.out] at hS2
      simp only [List.set_set] at hS2
      have HPut2 := Lib.hid (And.intro hS2 hG2)
      clear hW z0 f0 hS2 hG2 HPut
      go_upto_region 8 with fail
      generalize hW : World.setCell w1 _ _ = w2
      rw [show q + 1 + 1 = q + 2 from by omega]
      rw [hW] at HPut2
      have HB2 := Lib.hid (show Below w0.heap.size w0 w2 from by rw [← hW]; exact below_set HB1.out hg)
      have HK2 := Lib.hid (Kept.tr HK1.out (Kept.grown HPut2.out.2 hPg))
      obtain ⟨u2, y2, hR2, hP2, hback2⟩ := lendC2 HPut2.out.1 i hlt
      rw [Hget.out] at hR2 hback2
      simp only [List.set_set] at hback2
      have HC2 := Lib.hid (markX_c w0 w2 u2 l[i].f2 (q + 2) HB2.out hR2 hsl.1 (by omega) (by omega))
      have HBk2 := Lib.hid hback2
      have HPu2 := Lib.hid hP2
      obtain ⟨nu, Au, cu, eu⟩ : ∃ n A c, u2 = .slice A n c := by obtain ⟨A, c, h⟩ := Kd.R_slice hR2; exact ⟨_, A, c, h⟩
      subst eu
      have HSl := Lib.hid hsl
      obtain ⟨m2, hm2⟩ : ∃ m : Nat, m = 5 * l[i].f2.length := ⟨_, rfl⟩
      rw [← hm2] at HC2 HE
      have HM2 := Lib.hid hm2
      have hm21 : m2 ≤ 5242880 := by have := hsl.1; omega
      clear hR2 hP2 hback2 hm2 hW z1 f1 hcm HPut2 hsl
      go_upto_region 9 with (go_at_call 63; refine HC2.out.mono ?_; rintro e w3 ⟨rfl, h2, h3, h4⟩; have HS3 := Lib.hid (HBk2.out w3 _ h4 h2); have HB3 := Lib.hid h3; have HK3 := Lib.hid (Kept.tr HK2.out (Kept.sub h4 HPu2.out)); clear h2 h3 h4)
      clear y2 HC2 HBk2 HPu2 HB1 HK1 HB2 HK2
      obtain ⟨u3, P3, y3, hS3, hP3, hback3⟩ := lendC3 HS3.out i hlt
      rw [Hget.out] at hS3 hback3
      simp only [List.set_set] at hback3
      have HC3 := Lib.hid (markM_m w0 w3 P3 u3 l[i].f3 (q + 2 + m2) HB3.out hS3 HSl.out.2.1 HSl.out.2.2 (by omega) (by omega))
      have HBk3 := Lib.hid hback3
      have HPu3 := Lib.hid hP3
      obtain ⟨nv, Av, cv, ev⟩ : ∃ n A c, u3 = .slice A n c := by obtain ⟨A, c, h⟩ := Kd.S_slice hS3; exact ⟨_, A, c, h⟩
      subst ev
      obtain ⟨m3, hm3⟩ : ∃ m : Nat, m = cnt cM l[i].f3 := ⟨_, rfl⟩
      rw [← hm3] at HC3 HE
      have hm31 : m3 ≤ 1099512676352 := by
        have := cnt_most (ce := cM) 1048577 l[i].f3 (fun p hp => by have := HSl.out.2.2 p hp; unfold cM; omega)
        have := HSl.out.2.1
        omega
      clear hS3 hP3 hback3 hm3
      go_wp2_with (go_at_call 64; refine HC3.out.mono ?_; rintro e w4 ⟨rfl, h2, h3, h4⟩; have HS4 := Lib.hid (HBk3.out w4 _ h4 h2); have HB4 := Lib.hid h3; have HK4 := Lib.hid (Kept.tr HK3.out (Kept.sub h4 HPu3.out)); clear h2 h3 h4)
      refine ⟨⟨i + 1, q + 2 + m2 + m3, by go_num, rfl, hlt, HE, Lib.hid ?_, HB4, HK4⟩, by simp [intOf]; omega⟩
      have h := HS4.out
      rw [HM2.out, HQ.out] at h
      have e2 := part_set (me := mC1) (ce := cC) k l i hil
      rw [← e2]
      exact h
    · obtain rfl : i = n := by omega
      go_wp2
      go_ret
      refine ⟨(show Ending.returned (.int .i64 q) = _ from by rw [HQ.out, HN.out, List.take_length]), ?_, HB.out, HK.out⟩
      have h := HS.out
      rw [show mpart mC1 cC k l i = mC k l from by rw [HN.out]; exact part_all k l] at h
      exact h

/-- Both lists of an image are marked. -/
def MksI (w0 w : World) (P0 P1 : Nat → Prop) (v0 v1 : Value) (l0 : List (List Bool)) (l1 : List S53) (K : Int) (e : Ending) (w' : World) : Prop := e = .returned (.int .i64 K) ∧ Kd.S (Kd.slice 4 Kd.bool) 55 w' w0.heap.size P0 v0 l0 ∧ Kd.S k53s 53 w' w0.heap.size P1 v1 l1 ∧ Below w0.heap.size w0 w' ∧ Kept w w' (fun k => P0 k ∨ P1 k)
set_option maxHeartbeats 8000000 in
set_option maxRecDepth 100000 in
theorem markImage_m (w0 w : World) (P0 P1 : Nat → Prop) (v0 v1 : Value) (l0 : List (List Bool)) (l1 : List S53) (a2 : Int) (hB : Below w0.heap.size w0 w) (hS0 : Kd.S (Kd.slice 4 Kd.bool) 55 w w0.heap.size P0 v0 l0) (hS1 : Kd.S k53s 53 w w0.heap.size P1 v1 l1)
    (hap : ∀ k, P0 k → ¬ P1 k) (hlt : ∀ k, P0 k ∨ P1 k → k < w.heap.size)
    (hl0 : l0.length ≤ 1048576) (hs0 : ∀ s ∈ l0, s.length ≤ 1048576) (hl1 : l1.length ≤ 1048576) (hs1 : ∀ c ∈ l1, ShortC c) :
    Calls Try.prog 14 #[.agg #[v0, v1, .int .i64 a2], .int .i64 1] w (MksI w0 w P0 P1 v0 v1 (mS 1 l0) (mC (1 + cnt List.length l0) l1) (1 + cnt List.length l0 + cnt cC l1)) := by
  have hc0 := cnt_most (ce := List.length) 1048576 l0 hs0
  have HS0 := Lib.hid hS0
  have HS1 := Lib.hid hS1
  have HB := Lib.hid hB
  have HAp := Lib.hid hap
  have HLt := Lib.hid hlt
  have HM0 := Lib.hid hs0
  have HM1 := Lib.hid hs1
  obtain ⟨n0, A0, c0, e0⟩ : ∃ n A c, v0 = .slice A n c := by obtain ⟨A, c, h⟩ := Kd.S_slice hS0; exact ⟨_, A, c, h⟩
  subst e0
  obtain ⟨n1, A1, c1, e1⟩ : ∃ n A c, v1 = .slice A n c := by obtain ⟨A, c, h⟩ := Kd.S_slice hS1; exact ⟨_, A, c, h⟩
  subst e1
  obtain ⟨m0, hm0⟩ : ∃ m, m = cnt List.length l0 := ⟨_, rfl⟩
  rw [← hm0] at hc0 ⊢
  have HMm := Lib.hid hm0
  clear hB hS0 hS1 hap hlt hs0 hs1 hm0
  go_enter Try.func14, Try.ntmps14
  go_upto_region 1 with ((with_reducible refine gate_dst (N := 2) rfl ?_); refine box_event ?hg (N := 2) ?hd (cs := #[.slice A0 n0 c0, .slice A1 n1 c1, .int .i64 a2]) (t := 30) ?hr ?_; (case hd => rfl); (case hg => rfl); (case hr => first | (go_simp; done) | (go_simp; rfl)); intro gb hg w6 hbox hb; have HGb := Lib.hid hg; clear hg; have HB6 := Lib.hid hb; have HX := Lib.hid hbox; clear hbox hb)
  have z0 := (blk_cell HX.out 0).trans rfl
  have HC0 := Lib.hid (markS_m w0 w6 P0 _ l0 1 (below_step HB.out HB6.out) (Kd.S_below HS0.out HB6.out) hl0 HM0.out (by omega) (by omega))
  rw [← HMm.out] at HC0
  go_upto_region 2 with (go_at_call 34; refine HC0.out.mono ?_; rintro e w7 ⟨rfl, h2, h3, h4⟩; have HS07 := Lib.hid h2; have HB7 := Lib.hid h3; have HK7 := Lib.hid h4; clear h2 h3 h4)
  have HX7 : Hid (w7.heap[gb]? = some (.cells #[.slice A0 n0 c0, .slice A1 n1 c1, .int .i64 a2] 30 (0, 0))) := Lib.hid ((HK7.out.2 gb (blk_lt HX.out) (fun h => by have := HLt.out gb (.inl h); have := HGb.out; omega)).trans HX.out)
  have z1 := (blk_cell HX7.out 1).trans rfl
  have HS17 := Lib.hid (Kd.S_step (Kd.S_below HS1.out HB6.out) (w1 := w7) (fun k hk hlt => HK7.out.2 k hlt (fun h => HAp.out k h hk)))
  have HC1 := Lib.hid (markC_m w0 w7 P1 _ l1 (1 + m0) HB7.out HS17.out hl1 HM1.out (by omega) (by omega))
  clear z0 HC0
  go_wp2_with (go_at_call 35; refine HC1.out.mono ?_; rintro e w8 ⟨rfl, h2, h3, h4⟩; have HS18 := Lib.hid h2; have HB8 := Lib.hid h3; have HK8 := Lib.hid h4; clear h2 h3 h4)
  go_ret
  refine ⟨rfl, Kd.S_step HS07.out (fun k hk hlt => HK8.out.2 k hlt (fun h => HAp.out k hk h)), HS18.out, HB8.out, ?_⟩
  exact Kept.tr (Kept.tr ⟨HB6.out.size, fun i hi _ => HB6.out.block i hi⟩ (Kept.sub HK7.out fun _ h => .inl h)) (Kept.sub HK8.out fun _ h => .inr h)

end Go.Proofs.Ytkfeoilnhpfknaa.ImFnExactImageRead
end
