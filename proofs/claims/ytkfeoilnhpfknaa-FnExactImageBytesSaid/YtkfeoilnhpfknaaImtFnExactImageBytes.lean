/- The contracts of the law's markBoolS, markIntS, markInsS, markMapS, markCodeS, markBoolSS, markImage: they write within a set of blocks, and what lies there keeps its shape. Written by wip/gen_mark.py. -/
import Derived.Test.YtkfeoilnhpfknaaImqFnExactImageBytes
import Derived.Deep.DrawnRows
namespace Go.Proofs.Ytkfeoilnhpfknaa.ImFnExactImageBytes
open Go.RowKit Go.Proofs.Ytkfeoilnhpfknaa.QFnExactImageBytes Go.Proofs.YtkfeoilnhpfknaaW.PrintWords Go.Proofs.YtkfeoilnhpfknaaW.PrintLast
set_option linter.unusedSimpArgs false

/-- The same value, or one of the same kind. -/
def Kin (u u' : Value) : Prop := u' = u ∨ (∃ a b, u = .int .i64 a ∧ u' = .int .i64 b) ∨ (∃ a b, u = .bool a ∧ u' = .bool b)
theorem Kin.trans {u v w : Value} (h : Kin u v) (k : Kin v w) : Kin u w := by
  rcases h with rfl | ⟨a, b, rfl, rfl⟩ | ⟨a, b, rfl, rfl⟩
  · exact k
  · rcases k with rfl | ⟨c, d, _, rfl⟩ | ⟨c, d, e, _⟩
    · exact .inr (.inl ⟨a, b, rfl, rfl⟩)
    · exact .inr (.inl ⟨a, d, rfl, rfl⟩)
    · cases e
  · rcases k with rfl | ⟨c, d, e, _⟩ | ⟨c, d, _, rfl⟩
    · exact .inr (.inr ⟨a, b, rfl, rfl⟩)
    · cases e
    · exact .inr (.inr ⟨a, d, rfl, rfl⟩)
theorem Kin.int {z : Int} {u : Value} (h : Kin (.int .i64 z) u) : ∃ y, u = .int .i64 y := by
  rcases h with rfl | ⟨_, b, _, rfl⟩ | ⟨_, _, e, _⟩
  · exact ⟨z, rfl⟩
  · exact ⟨b, rfl⟩
  · cases e
theorem Kin.bool {z : Bool} {u : Value} (h : Kin (.bool z) u) : ∃ y, u = .bool y := by
  rcases h with rfl | ⟨_, _, e, _⟩ | ⟨_, b, _, rfl⟩
  · exact ⟨z, rfl⟩
  · cases e
  · exact ⟨b, rfl⟩
theorem Kin.slice {A : Option Addr} {n c : Nat} {u : Value} (h : Kin (.slice A n c) u) : u = .slice A n c := by
  rcases h with rfl | ⟨_, _, e, _⟩ | ⟨_, _, e, _⟩
  · rfl
  · cases e
  · cases e

/-- Written only within F, kind over kind. -/
structure Sim (F : Nat → Prop) (w w' : World) : Prop where
  os : w'.os = w.os
  tape : w'.tape = w.tape
  output : w'.output = w.output
  size : w'.heap.size = w.heap.size
  far : ∀ k, ¬ F k → w'.heap[k]? = w.heap[k]?
  near : ∀ (k : Nat) (cs : Array Value) (t : Nat), w.heap[k]? = some (.cells cs t (0, 0)) → ∃ cs', w'.heap[k]? = some (.cells cs' t (0, 0)) ∧ ∀ (j : Nat) (u : Value), cs[j]? = some u → ∃ u', cs'[j]? = some u' ∧ Kin u u'
theorem Sim.refl (F : Nat → Prop) (w : World) : Sim F w w := ⟨rfl, rfl, rfl, rfl, fun _ _ => rfl, fun _ cs _ h => ⟨cs, h, fun _ u hu => ⟨u, hu, .inl rfl⟩⟩⟩
theorem Sim.trans {F : Nat → Prop} {w w1 w2 : World} (h : Sim F w w1) (k : Sim F w1 w2) : Sim F w w2 := by
  refine ⟨k.os.trans h.os, k.tape.trans h.tape, k.output.trans h.output, k.size.trans h.size, fun b hb => (k.far b hb).trans (h.far b hb), fun b cs t hb => ?_⟩
  obtain ⟨cs1, h1, h2⟩ := h.near b cs t hb
  obtain ⟨cs2, k1, k2⟩ := k.near b cs1 t h1
  refine ⟨cs2, k1, fun j u hu => ?_⟩
  obtain ⟨u1, g1, g2⟩ := h2 j u hu
  obtain ⟨u2, l1, l2⟩ := k2 j u1 g1
  exact ⟨u2, l1, g2.trans l2⟩
theorem Sim.set {F : Nat → Prop} {w : World} {g j t : Nat} {cs : Array Value} {u u' : Value} (hF : F g) (hb : w.heap[g]? = some (.cells cs t (0, 0))) (hj : cs[j]? = some u) (hk : Kin u u') : Sim F w (w.setCell ⟨g, j, none⟩ u') := by
  have hs : (w.setCell ⟨g, j, none⟩ u').heap[g]? = some (.cells (cs.setIfInBounds j u') t (0, 0)) := by simpa using blk_set hb j u'
  refine ⟨by simp [World.setCell], by simp [World.setCell], by simp [World.setCell], by simp [World.setCell], fun k hn => Below.heap_setCell w ⟨g, j, none⟩ u' k (fun e => hn (by rw [show k = g from e]; exact hF)), fun k ds s hd => ?_⟩
  by_cases e : k = g
  · subst e
    rw [hb] at hd
    injection hd with hd
    injection hd with h1 h2
    subst h1 h2
    refine ⟨_, hs, fun i v hv => ?_⟩
    by_cases e : i = j
    · subst e
      rw [hj] at hv
      injection hv with hv
      subst hv
      have hlt : i < cs.size := (Array.getElem?_eq_some_iff.1 hj).1
      exact ⟨u', by rw [Array.getElem?_setIfInBounds]; simp [hlt], hk⟩
    · exact ⟨v, by rw [Array.getElem?_setIfInBounds]; simp [Ne.symm e, hv], .inl rfl⟩
  · exact ⟨ds, (Below.heap_setCell w ⟨g, j, none⟩ u' k e).trans hd, fun i v hv => ⟨v, hv, .inl rfl⟩⟩

/-- A row within F, of which each cell is as T says. -/
def GR (F : Nat → Prop) (w : World) (v : Value) (n sz : Nat) (T : World → Nat → Value → Prop) : Prop := ∃ A c, v = .slice A n c ∧ (0 < n → ∃ g cs t, A = some ⟨g, 0, none⟩ ∧ F g ∧ w.heap[g]? = some (.cells cs t (0, 0)) ∧ ∀ i, i < n → ∀ j, j < sz → ∃ u, cs[i * sz + j]? = some u ∧ T w j u)
def Stable (F : Nat → Prop) (T : World → Nat → Value → Prop) : Prop := ∀ w w', Sim F w w' → ∀ j u u', Kin u u' → T w j u → T w' j u'
theorem GR.sim {F : Nat → Prop} {w w' : World} {v : Value} {n sz : Nat} {T : World → Nat → Value → Prop} (hT : Stable F T) (h : GR F w v n sz T) (s : Sim F w w') : GR F w' v n sz T := by
  obtain ⟨A, c, e, h⟩ := h
  refine ⟨A, c, e, fun hn => ?_⟩
  obtain ⟨g, cs, t, e1, hF, hb, hc⟩ := h hn
  obtain ⟨cs', hb', hc'⟩ := s.near g cs t hb
  refine ⟨g, cs', t, e1, hF, hb', fun i hi j hj => ?_⟩
  obtain ⟨u, hu, hT1⟩ := hc i hi j hj
  obtain ⟨u', hu', hk⟩ := hc' _ u hu
  exact ⟨u', hu', hT w w' s j u u' hk hT1⟩
def TI (_ : World) (_ : Nat) (u : Value) : Prop := ∃ z, u = .int .i64 z
def TB (_ : World) (_ : Nat) (u : Value) : Prop := ∃ z, u = .bool z
def TM (F : Nat → Prop) (w : World) (j : Nat) (u : Value) : Prop := (j = 0 → ∃ z, u = .int .i64 z) ∧ (j = 1 → ∃ n, n ≤ 1048576 ∧ GR F w u n 1 TI)
def TC (F : Nat → Prop) (w : World) (j : Nat) (u : Value) : Prop := (j = 0 → ∃ z, u = .int .i64 z) ∧ (j = 1 → ∃ z, u = .int .i64 z) ∧ (j = 2 → ∃ n, n ≤ 1048576 ∧ GR F w u n 5 TI) ∧ (j = 3 → ∃ n, n ≤ 1048576 ∧ GR F w u n 2 (TM F))
def TS (F : Nat → Prop) (w : World) (_ : Nat) (u : Value) : Prop := ∃ n, n ≤ 1048576 ∧ GR F w u n 1 TB
theorem stI (F : Nat → Prop) : Stable F TI := fun _ _ _ _ _ _ hk ⟨z, e⟩ => by subst e; exact hk.int
theorem stB (F : Nat → Prop) : Stable F TB := fun _ _ _ _ _ _ hk ⟨z, e⟩ => by subst e; exact hk.bool
theorem GR.kin {F : Nat → Prop} {w : World} {u u' : Value} {n sz : Nat} {T : World → Nat → Value → Prop} (h : GR F w u n sz T) (hk : Kin u u') : u' = u := by
  obtain ⟨A, c, rfl, _⟩ := h
  exact hk.slice
theorem stM (F : Nat → Prop) : Stable F (TM F) := fun w w' s j u u' hk h =>
  ⟨fun e => by obtain ⟨z, rfl⟩ := h.1 e; exact hk.int, fun e => by obtain ⟨n, hn, hg⟩ := h.2 e; rw [hg.kin hk]; exact ⟨n, hn, hg.sim (stI F) s⟩⟩
theorem stC (F : Nat → Prop) : Stable F (TC F) := fun w w' s j u u' hk h =>
  ⟨fun e => by obtain ⟨z, rfl⟩ := h.1 e; exact hk.int, fun e => by obtain ⟨z, rfl⟩ := h.2.1 e; exact hk.int, fun e => by obtain ⟨n, hn, hg⟩ := h.2.2.1 e; rw [hg.kin hk]; exact ⟨n, hn, hg.sim (stI F) s⟩, fun e => by obtain ⟨n, hn, hg⟩ := h.2.2.2 e; rw [hg.kin hk]; exact ⟨n, hn, hg.sim (stM F) s⟩⟩
theorem stS (F : Nat → Prop) : Stable F (TS F) := fun w w' s j u u' hk ⟨n, hn, hg⟩ => by rw [hg.kin hk]; exact ⟨n, hn, hg.sim (stB F) s⟩

def Marks (F : Nat → Prop) (w : World) (lo hi : Int) (e : Ending) (w' : World) : Prop := ∃ K, e = .returned (.int .i64 K) ∧ lo ≤ K ∧ K ≤ hi ∧ Sim F w w'

set_option maxHeartbeats 4000000 in
set_option maxRecDepth 100000 in
theorem markB_c (F : Nat → Prop) (w : World) (v : Value) (n : Nat) (k : Int) (h : GR F w v n 1 TB) (hn : n ≤ 1048576) (h0 : 0 ≤ k) (h1 : k ≤ 4611686018427387904) : Calls Try.prog 62 #[v, .int .i64 k] w (Marks F w k (k + n)) := by
  have HG := Lib.hid h
  obtain ⟨A, c, rfl, _⟩ := h
  go_enter Try.func62, Try.ntmps62
  go_wp2
  go_loopw [1, 5] (fun v1 v5 wr => ∃ i : Nat, v5 = .int .i64 i ∧ v1 = .int .i64 (k + i) ∧ i ≤ n ∧ Hid (Sim F w wr)) (fun _ v5 _ => (n - intOf v5).toNat)
  case atStart => exact ⟨0, rfl, by simp, by omega, Lib.hid (Sim.refl _ _)⟩
  case round =>
    obtain ⟨i, rfl, rfl, hi, HS⟩ := hrel
    by_cases hlt : i < n
    · have p0 : (0 : Int) ≤ (i : Int) := by omega
      have q0 : (i : Int) < (n : Int) := by omega
      obtain ⟨A', c', e1, hg⟩ := HG.out.sim (stB F) HS.out
      injection e1 with e1 _ e2
      subst e1 e2
      obtain ⟨g, cs, t, rfl, hF, hb, hc⟩ := hg (by omega)
      obtain ⟨u, hu, z, rfl⟩ := hc i hlt 0 (by decide)
      rw [Nat.mul_one, Nat.add_zero] at hu
      have z0 := (blk_cell hb i).trans hu
      have f0 := blk_frozen hb i
      have HSt : Hid (∀ y, Sim F wr (wr.setCell ⟨g, i, none⟩ (.bool y))) := Lib.hid (fun y => Sim.set hF hb hu (.inr (.inr ⟨_, _, rfl, rfl⟩)))
      clear hg hF hb hc hu
      go_wp2
      go_roundw
      case rel => exact ⟨i + 1, by go_num, by go_num, by omega, Lib.hid (HS.out.trans (HSt.out _))⟩
      case measure => simp [intOf]; omega
    · obtain rfl : i = n := by omega
      go_wp2
      go_ret
      exact ⟨k + i, rfl, by omega, by omega, HS.out⟩

set_option maxHeartbeats 4000000 in
set_option maxRecDepth 100000 in
theorem markI_c (F : Nat → Prop) (w : World) (v : Value) (n : Nat) (k : Int) (h : GR F w v n 1 TI) (hn : n ≤ 1048576) (h0 : 0 ≤ k) (h1 : k ≤ 4611686018427387904) : Calls Try.prog 79 #[v, .int .i64 k] w (Marks F w k (k + n)) := by
  have HG := Lib.hid h
  obtain ⟨A, c, rfl, _⟩ := h
  go_enter Try.func79, Try.ntmps79
  go_wp2
  go_loopw [1, 5] (fun v1 v5 wr => ∃ i : Nat, v5 = .int .i64 i ∧ v1 = .int .i64 (k + i) ∧ i ≤ n ∧ Hid (Sim F w wr)) (fun _ v5 _ => (n - intOf v5).toNat)
  case atStart => exact ⟨0, rfl, by simp, by omega, Lib.hid (Sim.refl _ _)⟩
  case round =>
    obtain ⟨i, rfl, rfl, hi, HS⟩ := hrel
    by_cases hlt : i < n
    · have p0 : (0 : Int) ≤ (i : Int) := by omega
      have q0 : (i : Int) < (n : Int) := by omega
      obtain ⟨A', c', e1, hg⟩ := HG.out.sim (stI F) HS.out
      injection e1 with e1 _ e2
      subst e1 e2
      obtain ⟨g, cs, t, rfl, hF, hb, hc⟩ := hg (by omega)
      obtain ⟨u, hu, z, rfl⟩ := hc i hlt 0 (by decide)
      rw [Nat.mul_one, Nat.add_zero] at hu
      have z0 := (blk_cell hb i).trans hu
      have f0 := blk_frozen hb i
      have HSt : Hid (∀ y, Sim F wr (wr.setCell ⟨g, i, none⟩ (.int .i64 y))) := Lib.hid (fun y => Sim.set hF hb hu (.inr (.inl ⟨_, _, rfl, rfl⟩)))
      clear hg hF hb hc hu
      go_wp2
      go_roundw
      case rel => exact ⟨i + 1, by go_num, by go_num, by omega, Lib.hid (HS.out.trans (HSt.out _))⟩
      case measure => simp [intOf]; omega
    · obtain rfl : i = n := by omega
      go_wp2
      go_ret
      exact ⟨k + i, rfl, by omega, by omega, HS.out⟩

set_option maxHeartbeats 8000000 in
set_option maxRecDepth 100000 in
theorem markX_c (F : Nat → Prop) (w : World) (v : Value) (n : Nat) (k : Int) (h : GR F w v n 5 TI) (hn : n ≤ 1048576) (h0 : 0 ≤ k) (h1 : k ≤ 2305843009213693952) : Calls Try.prog 63 #[v, .int .i64 k] w (Marks F w k (k + n * 5)) := by
  have HG := Lib.hid h
  obtain ⟨A, c, rfl, hA⟩ := h
  by_cases hnz : n = 0
  · subst hnz
    clear hA
    go_enter Try.func63, Try.ntmps63
    go_wp2
    go_loopw [1, 5] (fun v1 v5 wr => v5 = .int .i64 0 ∧ v1 = .int .i64 k ∧ wr = w) (fun _ _ _ => 0)
    case atStart => exact ⟨rfl, rfl, rfl⟩
    case round =>
      obtain ⟨rfl, rfl, rfl⟩ := hrel
      go_wp2
      go_ret
      exact ⟨k, rfl, by omega, by omega, Sim.refl _ _⟩
  obtain ⟨g, _, _, rfl, _, _, _⟩ := hA (by omega)
  clear hA
  have HR : Hid (∀ w1, Sim F w w1 → ∃ cs t, F g ∧ w1.heap[g]? = some (.cells cs t (0, 0)) ∧ ∀ i, i < n → ∀ j, j < 5 → ∃ u, cs[i * 5 + j]? = some u ∧ TI w1 j u) := Lib.hid (fun w1 s => by
    obtain ⟨A', c', e1, hg⟩ := HG.out.sim (stI F) s
    injection e1 with e1 _ _
    obtain ⟨g', cs, t, e3, hF, hb, hc⟩ := hg (by omega)
    rw [← e1] at e3
    injection e3 with e3
    injection e3 with e3
    subst e3
    exact ⟨cs, t, hF, hb, hc⟩)
  go_enter Try.func63, Try.ntmps63
  go_wp2
  go_loopw [1, 5] (fun v1 v5 wr => ∃ (i : Nat) (q : Int), v5 = .int .i64 i ∧ v1 = .int .i64 q ∧ i ≤ n ∧ k ≤ q ∧ q ≤ k + i * 5 ∧ Hid (Sim F w wr)) (fun _ v5 _ => (n - intOf v5).toNat)
  case atStart => exact ⟨0, k, rfl, rfl, by omega, by omega, by omega, Lib.hid (Sim.refl _ _)⟩
  case round =>
    obtain ⟨i, q, rfl, rfl, hi, hq0, hq1, HS⟩ := hrel
    by_cases hlt : i < n
    · have p0 : (0 : Int) ≤ (i : Int) := by omega
      have q0 : (i : Int) < (n : Int) := by omega
      obtain ⟨cs, t, hF, hb, hc⟩ := HR.out _ HS.out
      obtain ⟨u, hu, hT⟩ := hc i hlt 0 (by decide)
      obtain ⟨z, rfl⟩ := hT
      have z0 := (blk_cell hb (i * 5)).trans hu
      have f0 := blk_frozen hb (i * 5)
      have HSt0 : Hid (∀ y, Sim F _ (World.setCell _ ⟨g, i * 5, none⟩ (.int .i64 y))) := Lib.hid (fun y => Sim.set hF hb hu (.inr (.inl ⟨_, _, rfl, rfl⟩)))
      clear hF hb hc hu
      (try clear hT)
      go_upto_region 6 with fail
      clear z0 f0
      generalize hw0 : World.setCell _ ⟨g, _, none⟩ _ = w0
      have HS0 : Hid (Sim F w w0) := Lib.hid (by rw [← hw0]; exact HS.out.trans (HSt0.out _))
      clear HSt0 hw0
      obtain ⟨cs, t, hF, hb, hc⟩ := HR.out _ HS0.out
      obtain ⟨u, hu, hT⟩ := hc i hlt 1 (by decide)
      obtain ⟨z, rfl⟩ := hT
      have z1 := (blk_cell hb (i * 5 + 1)).trans hu
      have f1 := blk_frozen hb (i * 5 + 1)
      have HSt1 : Hid (∀ y, Sim F _ (World.setCell _ ⟨g, i * 5 + 1, none⟩ (.int .i64 y))) := Lib.hid (fun y => Sim.set hF hb hu (.inr (.inl ⟨_, _, rfl, rfl⟩)))
      clear hF hb hc hu
      (try clear hT)
      go_upto_region 8 with fail
      clear z1 f1
      generalize hw1 : World.setCell _ ⟨g, _, none⟩ _ = w1
      have HS1 : Hid (Sim F w w1) := Lib.hid (by rw [← hw1]; exact HS0.out.trans (HSt1.out _))
      clear HSt1 hw1
      obtain ⟨cs, t, hF, hb, hc⟩ := HR.out _ HS1.out
      obtain ⟨u, hu, hT⟩ := hc i hlt 2 (by decide)
      obtain ⟨z, rfl⟩ := hT
      have z2 := (blk_cell hb (i * 5 + 2)).trans hu
      have f2 := blk_frozen hb (i * 5 + 2)
      have HSt2 : Hid (∀ y, Sim F _ (World.setCell _ ⟨g, i * 5 + 2, none⟩ (.int .i64 y))) := Lib.hid (fun y => Sim.set hF hb hu (.inr (.inl ⟨_, _, rfl, rfl⟩)))
      clear hF hb hc hu
      (try clear hT)
      go_upto_region 10 with fail
      clear z2 f2
      generalize hw2 : World.setCell _ ⟨g, _, none⟩ _ = w2
      have HS2 : Hid (Sim F w w2) := Lib.hid (by rw [← hw2]; exact HS1.out.trans (HSt2.out _))
      clear HSt2 hw2
      obtain ⟨cs, t, hF, hb, hc⟩ := HR.out _ HS2.out
      obtain ⟨u, hu, hT⟩ := hc i hlt 3 (by decide)
      obtain ⟨z, rfl⟩ := hT
      have z3 := (blk_cell hb (i * 5 + 3)).trans hu
      have f3 := blk_frozen hb (i * 5 + 3)
      have HSt3 : Hid (∀ y, Sim F _ (World.setCell _ ⟨g, i * 5 + 3, none⟩ (.int .i64 y))) := Lib.hid (fun y => Sim.set hF hb hu (.inr (.inl ⟨_, _, rfl, rfl⟩)))
      clear hF hb hc hu
      (try clear hT)
      go_upto_region 12 with fail
      clear z3 f3
      generalize hw3 : World.setCell _ ⟨g, _, none⟩ _ = w3
      have HS3 : Hid (Sim F w w3) := Lib.hid (by rw [← hw3]; exact HS2.out.trans (HSt3.out _))
      clear HSt3 hw3
      obtain ⟨cs, t, hF, hb, hc⟩ := HR.out _ HS3.out
      obtain ⟨u, hu, hT⟩ := hc i hlt 4 (by decide)
      obtain ⟨z, rfl⟩ := hT
      have z4 := (blk_cell hb (i * 5 + 4)).trans hu
      have f4 := blk_frozen hb (i * 5 + 4)
      have HSt4 : Hid (∀ y, Sim F _ (World.setCell _ ⟨g, i * 5 + 4, none⟩ (.int .i64 y))) := Lib.hid (fun y => Sim.set hF hb hu (.inr (.inl ⟨_, _, rfl, rfl⟩)))
      clear hF hb hc hu
      (try clear hT)
      go_wp2
      go_roundw
      case rel => exact ⟨i + 1, _, by go_num, rfl, by omega, by omega, by omega, Lib.hid (HS3.out.trans (HSt4.out _))⟩
      case measure => simp [intOf]; omega
    · obtain rfl : i = n := by omega
      go_wp2
      go_ret
      exact ⟨q, rfl, hq0, hq1, HS.out⟩

set_option maxHeartbeats 8000000 in
set_option maxRecDepth 100000 in
theorem markM_c (F : Nat → Prop) (w : World) (v : Value) (n : Nat) (k : Int) (h : GR F w v n 2 (TM F)) (hn : n ≤ 1048576) (h0 : 0 ≤ k) (h1 : k ≤ 2305843009213693952) : Calls Try.prog 64 #[v, .int .i64 k] w (Marks F w k (k + n * 1048577)) := by
  have HG := Lib.hid h
  obtain ⟨A, c, rfl, hA⟩ := h
  by_cases hnz : n = 0
  · subst hnz
    clear hA
    go_enter Try.func64, Try.ntmps64
    go_wp2
    go_loopw [1, 5] (fun v1 v5 wr => v5 = .int .i64 0 ∧ v1 = .int .i64 k ∧ wr = w) (fun _ _ _ => 0)
    case atStart => exact ⟨rfl, rfl, rfl⟩
    case round =>
      obtain ⟨rfl, rfl, rfl⟩ := hrel
      go_wp2
      go_ret
      exact ⟨k, rfl, by omega, by omega, Sim.refl _ _⟩
  obtain ⟨g, _, _, rfl, _, _, _⟩ := hA (by omega)
  clear hA
  have HR : Hid (∀ w1, Sim F w w1 → ∃ cs t, F g ∧ w1.heap[g]? = some (.cells cs t (0, 0)) ∧ ∀ i, i < n → ∀ j, j < 2 → ∃ u, cs[i * 2 + j]? = some u ∧ (TM F) w1 j u) := Lib.hid (fun w1 s => by
    obtain ⟨A', c', e1, hg⟩ := HG.out.sim (stM F) s
    injection e1 with e1 _ _
    obtain ⟨g', cs, t, e3, hF, hb, hc⟩ := hg (by omega)
    rw [← e1] at e3
    injection e3 with e3
    injection e3 with e3
    subst e3
    exact ⟨cs, t, hF, hb, hc⟩)
  go_enter Try.func64, Try.ntmps64
  go_wp2
  go_loopw [1, 5] (fun v1 v5 wr => ∃ (i : Nat) (q : Int), v5 = .int .i64 i ∧ v1 = .int .i64 q ∧ i ≤ n ∧ k ≤ q ∧ q ≤ k + i * 1048577 ∧ Hid (Sim F w wr)) (fun _ v5 _ => (n - intOf v5).toNat)
  case atStart => exact ⟨0, k, rfl, rfl, by omega, by omega, by omega, Lib.hid (Sim.refl _ _)⟩
  case round =>
    obtain ⟨i, q, rfl, rfl, hi, hq0, hq1, HS⟩ := hrel
    by_cases hlt : i < n
    · have p0 : (0 : Int) ≤ (i : Int) := by omega
      have q0 : (i : Int) < (n : Int) := by omega
      obtain ⟨cs, t, hF, hb, hc⟩ := HR.out _ HS.out
      obtain ⟨u, hu, hT⟩ := hc i hlt 0 (by decide)
      obtain ⟨z, rfl⟩ := hT.1 rfl
      have z0 := (blk_cell hb (i * 2)).trans hu
      have f0 := blk_frozen hb (i * 2)
      have HSt0 : Hid (∀ y, Sim F _ (World.setCell _ ⟨g, i * 2, none⟩ (.int .i64 y))) := Lib.hid (fun y => Sim.set hF hb hu (.inr (.inl ⟨_, _, rfl, rfl⟩)))
      clear hF hb hc hu
      (try clear hT)
      go_upto_region 6 with fail
      clear z0 f0
      generalize hw0 : World.setCell _ ⟨g, _, none⟩ _ = w0
      have HS0 : Hid (Sim F w w0) := Lib.hid (by rw [← hw0]; exact HS.out.trans (HSt0.out _))
      clear HSt0 hw0
      obtain ⟨cs, t, hF, hb, hc⟩ := HR.out _ HS0.out
      obtain ⟨u, hu, hT⟩ := hc i hlt 1 (by decide)
      obtain ⟨m1, hm1, hg⟩ := hT.2 rfl
      have HGm := Lib.hid hg
      obtain ⟨A1, c1, rfl, _⟩ := hg
      have z1 := (blk_cell hb (i * 2 + 1)).trans hu
      clear hF hb hc hu
      (try clear hT)
      go_wp2_with fail
      refine (markI_c F _ _ m1 _ HGm.out hm1 ?_ ?_).mono ?_
      · omega
      · omega
      rintro e wx1 ⟨q1, rfl, hq1a, hq1b, hs⟩
      have HS1 := Lib.hid (HS0.out.trans hs)
      clear hs HGm z1
      go_wp2
      go_roundw
      case rel => exact ⟨i + 1, _, by go_num, rfl, by omega, by omega, by omega, HS1⟩
      case measure => simp [intOf]; omega
    · obtain rfl : i = n := by omega
      go_wp2
      go_ret
      exact ⟨q, rfl, hq0, hq1, HS.out⟩

set_option maxHeartbeats 8000000 in
set_option maxRecDepth 100000 in
theorem markC_c (F : Nat → Prop) (w : World) (v : Value) (n : Nat) (k : Int) (h : GR F w v n 4 (TC F)) (hn : n ≤ 1048576) (h0 : 0 ≤ k) (h1 : k ≤ 1125899906842624) : Calls Try.prog 35 #[v, .int .i64 k] w (Marks F w k (k + n * 1099517919234)) := by
  have HG := Lib.hid h
  obtain ⟨A, c, rfl, hA⟩ := h
  by_cases hnz : n = 0
  · subst hnz
    clear hA
    go_enter Try.func35, Try.ntmps35
    go_wp2
    go_loopw [1, 5] (fun v1 v5 wr => v5 = .int .i64 0 ∧ v1 = .int .i64 k ∧ wr = w) (fun _ _ _ => 0)
    case atStart => exact ⟨rfl, rfl, rfl⟩
    case round =>
      obtain ⟨rfl, rfl, rfl⟩ := hrel
      go_wp2
      go_ret
      exact ⟨k, rfl, by omega, by omega, Sim.refl _ _⟩
  obtain ⟨g, _, _, rfl, _, _, _⟩ := hA (by omega)
  clear hA
  have HR : Hid (∀ w1, Sim F w w1 → ∃ cs t, F g ∧ w1.heap[g]? = some (.cells cs t (0, 0)) ∧ ∀ i, i < n → ∀ j, j < 4 → ∃ u, cs[i * 4 + j]? = some u ∧ (TC F) w1 j u) := Lib.hid (fun w1 s => by
    obtain ⟨A', c', e1, hg⟩ := HG.out.sim (stC F) s
    injection e1 with e1 _ _
    obtain ⟨g', cs, t, e3, hF, hb, hc⟩ := hg (by omega)
    rw [← e1] at e3
    injection e3 with e3
    injection e3 with e3
    subst e3
    exact ⟨cs, t, hF, hb, hc⟩)
  go_enter Try.func35, Try.ntmps35
  go_wp2
  go_loopw [1, 5] (fun v1 v5 wr => ∃ (i : Nat) (q : Int), v5 = .int .i64 i ∧ v1 = .int .i64 q ∧ i ≤ n ∧ k ≤ q ∧ q ≤ k + i * 1099517919234 ∧ Hid (Sim F w wr)) (fun _ v5 _ => (n - intOf v5).toNat)
  case atStart => exact ⟨0, k, rfl, rfl, by omega, by omega, by omega, Lib.hid (Sim.refl _ _)⟩
  case round =>
    obtain ⟨i, q, rfl, rfl, hi, hq0, hq1, HS⟩ := hrel
    by_cases hlt : i < n
    · have p0 : (0 : Int) ≤ (i : Int) := by omega
      have q0 : (i : Int) < (n : Int) := by omega
      obtain ⟨cs, t, hF, hb, hc⟩ := HR.out _ HS.out
      obtain ⟨u, hu, hT⟩ := hc i hlt 0 (by decide)
      obtain ⟨z, rfl⟩ := hT.1 rfl
      have z0 := (blk_cell hb (i * 4)).trans hu
      have f0 := blk_frozen hb (i * 4)
      have HSt0 : Hid (∀ y, Sim F _ (World.setCell _ ⟨g, i * 4, none⟩ (.int .i64 y))) := Lib.hid (fun y => Sim.set hF hb hu (.inr (.inl ⟨_, _, rfl, rfl⟩)))
      clear hF hb hc hu
      (try clear hT)
      go_upto_region 6 with fail
      clear z0 f0
      generalize hw0 : World.setCell _ ⟨g, _, none⟩ _ = w0
      have HS0 : Hid (Sim F w w0) := Lib.hid (by rw [← hw0]; exact HS.out.trans (HSt0.out _))
      clear HSt0 hw0
      obtain ⟨cs, t, hF, hb, hc⟩ := HR.out _ HS0.out
      obtain ⟨u, hu, hT⟩ := hc i hlt 1 (by decide)
      obtain ⟨z, rfl⟩ := hT.2.1 rfl
      have z1 := (blk_cell hb (i * 4 + 1)).trans hu
      have f1 := blk_frozen hb (i * 4 + 1)
      have HSt1 : Hid (∀ y, Sim F _ (World.setCell _ ⟨g, i * 4 + 1, none⟩ (.int .i64 y))) := Lib.hid (fun y => Sim.set hF hb hu (.inr (.inl ⟨_, _, rfl, rfl⟩)))
      clear hF hb hc hu
      (try clear hT)
      go_upto_region 8 with fail
      clear z1 f1
      generalize hw1 : World.setCell _ ⟨g, _, none⟩ _ = w1
      have HS1 : Hid (Sim F w w1) := Lib.hid (by rw [← hw1]; exact HS0.out.trans (HSt1.out _))
      clear HSt1 hw1
      obtain ⟨cs, t, hF, hb, hc⟩ := HR.out _ HS1.out
      obtain ⟨u, hu, hT⟩ := hc i hlt 2 (by decide)
      obtain ⟨m2, hm2, hg⟩ := hT.2.2.1 rfl
      have HGm := Lib.hid hg
      obtain ⟨A2, c2, rfl, _⟩ := hg
      have z2 := (blk_cell hb (i * 4 + 2)).trans hu
      clear hF hb hc hu
      (try clear hT)
      go_wp2_with fail
      refine (markX_c F _ _ m2 _ HGm.out hm2 ?_ ?_).mono ?_
      · omega
      · omega
      rintro e wx2 ⟨q2, rfl, hq2a, hq2b, hs⟩
      have HS2 := Lib.hid (HS1.out.trans hs)
      clear hs HGm z2
      obtain ⟨cs, t, hF, hb, hc⟩ := HR.out _ HS2.out
      obtain ⟨u, hu, hT⟩ := hc i hlt 3 (by decide)
      obtain ⟨m3, hm3, hg⟩ := hT.2.2.2 rfl
      have HGm := Lib.hid hg
      obtain ⟨A3, c3, rfl, _⟩ := hg
      have z3 := (blk_cell hb (i * 4 + 3)).trans hu
      clear hF hb hc hu
      (try clear hT)
      go_wp2_with fail
      refine (markM_c F _ _ m3 _ HGm.out hm3 ?_ ?_).mono ?_
      · omega
      · omega
      rintro e wx3 ⟨q3, rfl, hq3a, hq3b, hs⟩
      have HS3 := Lib.hid (HS2.out.trans hs)
      clear hs HGm z3
      go_wp2
      go_roundw
      case rel => exact ⟨i + 1, _, by go_num, rfl, by omega, by omega, by omega, HS3⟩
      case measure => simp [intOf]; omega
    · obtain rfl : i = n := by omega
      go_wp2
      go_ret
      exact ⟨q, rfl, hq0, hq1, HS.out⟩

set_option maxHeartbeats 8000000 in
set_option maxRecDepth 100000 in
theorem markS_c (F : Nat → Prop) (w : World) (v : Value) (n : Nat) (k : Int) (h : GR F w v n 1 (TS F)) (hn : n ≤ 1048576) (h0 : 0 ≤ k) (h1 : k ≤ 562949953421312) : Calls Try.prog 34 #[v, .int .i64 k] w (Marks F w k (k + n * 1048576)) := by
  have HG := Lib.hid h
  obtain ⟨A, c, rfl, hA⟩ := h
  by_cases hnz : n = 0
  · subst hnz
    clear hA
    go_enter Try.func34, Try.ntmps34
    go_wp2
    go_loopw [1, 5] (fun v1 v5 wr => v5 = .int .i64 0 ∧ v1 = .int .i64 k ∧ wr = w) (fun _ _ _ => 0)
    case atStart => exact ⟨rfl, rfl, rfl⟩
    case round =>
      obtain ⟨rfl, rfl, rfl⟩ := hrel
      go_wp2
      go_ret
      exact ⟨k, rfl, by omega, by omega, Sim.refl _ _⟩
  obtain ⟨g, _, _, rfl, _, _, _⟩ := hA (by omega)
  clear hA
  have HR : Hid (∀ w1, Sim F w w1 → ∃ cs t, F g ∧ w1.heap[g]? = some (.cells cs t (0, 0)) ∧ ∀ i, i < n → ∀ j, j < 1 → ∃ u, cs[i * 1 + j]? = some u ∧ (TS F) w1 j u) := Lib.hid (fun w1 s => by
    obtain ⟨A', c', e1, hg⟩ := HG.out.sim (stS F) s
    injection e1 with e1 _ _
    obtain ⟨g', cs, t, e3, hF, hb, hc⟩ := hg (by omega)
    rw [← e1] at e3
    injection e3 with e3
    injection e3 with e3
    subst e3
    exact ⟨cs, t, hF, hb, hc⟩)
  go_enter Try.func34, Try.ntmps34
  go_wp2
  go_loopw [1, 5] (fun v1 v5 wr => ∃ (i : Nat) (q : Int), v5 = .int .i64 i ∧ v1 = .int .i64 q ∧ i ≤ n ∧ k ≤ q ∧ q ≤ k + i * 1048576 ∧ Hid (Sim F w wr)) (fun _ v5 _ => (n - intOf v5).toNat)
  case atStart => exact ⟨0, k, rfl, rfl, by omega, by omega, by omega, Lib.hid (Sim.refl _ _)⟩
  case round =>
    obtain ⟨i, q, rfl, rfl, hi, hq0, hq1, HS⟩ := hrel
    by_cases hlt : i < n
    · have p0 : (0 : Int) ≤ (i : Int) := by omega
      have q0 : (i : Int) < (n : Int) := by omega
      obtain ⟨cs, t, hF, hb, hc⟩ := HR.out _ HS.out
      obtain ⟨u, hu, hT⟩ := hc i hlt 0 (by decide)
      rw [Nat.mul_one, Nat.add_zero] at hu
      obtain ⟨m0, hm0, hg⟩ := hT
      have HGm := Lib.hid hg
      obtain ⟨A0, c0, rfl, _⟩ := hg
      have z0 := (blk_cell hb (i)).trans hu
      clear hF hb hc hu
      (try clear hT)
      go_wp2_with fail
      refine (markB_c F _ _ m0 _ HGm.out hm0 ?_ ?_).mono ?_
      · omega
      · omega
      rintro e wx0 ⟨q0, rfl, hq0a, hq0b, hs⟩
      have HS0 := Lib.hid (HS.out.trans hs)
      clear hs HGm z0
      go_wp2
      go_roundw
      case rel => exact ⟨i + 1, _, by go_num, rfl, by omega, by omega, by omega, HS0⟩
      case measure => simp [intOf]; omega
    · obtain rfl : i = n := by omega
      go_wp2
      go_ret
      exact ⟨q, rfl, hq0, hq1, HS.out⟩

set_option maxHeartbeats 8000000 in
set_option maxRecDepth 100000 in
theorem markImage_c (F : Nat → Prop) (w : World) (v0 v1 : Value) (n0 n1 : Nat) (a2 k : Int) (hv0 : GR F w v0 n0 1 (TS F)) (hv1 : GR F w v1 n1 4 (TC F)) (hn0 : n0 ≤ 1048576) (hn1 : n1 ≤ 1048576) (h0 : 0 ≤ k) (h1 : k ≤ 1048576) (hold : ∀ g, F g → g < w.heap.size) :
    Calls Try.prog 14 #[.agg #[v0, v1, .int .i64 a2], .int .i64 k] w (fun e w' => ∃ K, e = .returned (.int .i64 K) ∧ 0 ≤ K ∧ ∃ w1, Below w.heap.size w w1 ∧ Sim F w1 w') := by
  have HG0 := Lib.hid hv0
  have HG1 := Lib.hid hv1
  obtain ⟨A0, c0, rfl, _⟩ := hv0
  obtain ⟨A1, c1, rfl, _⟩ := hv1
  go_enter Try.func14, Try.ntmps14
  go_upto_region 1 with ((with_reducible refine gate_dst (N := 2) rfl ?_); refine box_event ?hg (N := 2) ?hd (cs := #[.slice A0 n0 c0, .slice A1 n1 c1, .int .i64 a2]) (t := 30) ?hr ?_; (case hd => rfl); (case hg => rfl); (case hr => first | (go_simp; done) | (go_simp; rfl)); intro gb hg w6 hbox hb; have HGb := Lib.hid (Nat.le_of_eq hg.symm); clear hg; have HB := Lib.hid hb; have HX := Lib.hid hbox; clear hbox hb)
  have hFb : Hid (¬ F gb) := Lib.hid (fun h => by have := hold gb h; have := HGb.out; omega)
  have HW : Hid (∀ (T : World → Nat → Value → Prop) v n sz, (∀ u j, T w j u → T w6 j u) → GR F w v n sz T → GR F w6 v n sz T) := Lib.hid (fun T v n sz hT ⟨A, c, e, h⟩ => ⟨A, c, e, fun hn => by
    obtain ⟨g, cs, t, e1, hF, hb, hc⟩ := h hn
    exact ⟨g, cs, t, e1, hF, blk_below hb HB.out, fun i hi j hj => by obtain ⟨u, hu, h2⟩ := hc i hi j hj; exact ⟨u, hu, hT u j h2⟩⟩⟩)
  have HG0' : Hid (GR F w6 (.slice A0 n0 c0) n0 1 (TS F)) := Lib.hid (HW.out _ _ _ _ (fun u j ⟨n, hn, hg⟩ => ⟨n, hn, HW.out _ _ _ _ (fun _ _ h => h) hg⟩) HG0.out)
  have HG1' : Hid (GR F w6 (.slice A1 n1 c1) n1 4 (TC F)) := Lib.hid (HW.out _ _ _ _ (fun u j h => ⟨h.1, h.2.1, fun e => by obtain ⟨n, hn, hg⟩ := h.2.2.1 e; exact ⟨n, hn, HW.out _ _ _ _ (fun _ _ h => h) hg⟩, fun e => by obtain ⟨n, hn, hg⟩ := h.2.2.2 e; exact ⟨n, hn, HW.out _ _ _ _ (fun u j h => ⟨h.1, fun e => by obtain ⟨n, hn, hg⟩ := h.2 e; exact ⟨n, hn, HW.out _ _ _ _ (fun _ _ h => h) hg⟩⟩) hg⟩⟩) HG1.out)
  clear HG0 HG1 HW hold
  have z0 := (blk_cell HX.out 0).trans rfl
  go_wp2_with fail
  refine (markS_c F w6 _ n0 _ HG0'.out hn0 ?_ ?_).mono ?_
  · omega
  · omega
  rintro e w7 ⟨q, rfl, hqa, hqb, hs⟩
  have HS := Lib.hid hs
  have z1 : w7.cell? ⟨gb, 1, none⟩ = some (.slice A1 n1 c1) := (blk_cell ((hs.far gb hFb.out).trans HX.out) 1).trans rfl
  have HG1w := Lib.hid (HG1'.out.sim (stC F) hs)
  clear hs z0
  go_wp2_with fail
  refine (markC_c F w7 _ n1 _ HG1w.out hn1 ?_ ?_).mono ?_
  · omega
  · omega
  rintro e w8 ⟨q1, rfl, hq1a, hq1b, hs⟩
  have HS2 := Lib.hid (HS.out.trans hs)
  clear hs z1
  go_wp2
  go_ret
  exact ⟨q1, rfl, by omega, w6, HB.out, HS2.out⟩

end Go.Proofs.Ytkfeoilnhpfknaa.ImFnExactImageBytes
