/- The contracts of the law's markTyS, markIntS, markValS, markEdgeS, markBlockS, markFn: they write within a set of blocks, and what lies there keeps its shape. Written by wip/gen_markfn.py. -/
import Derived.Test.YtlamooicofkjlaaDmaFnExactDoms
import Derived.Deep.DrawnRows
namespace Go.Proofs.Ytlamooicofkjlaa.DmFnExactDoms
open Go.RowKit Go.Proofs.Ytlamooicofkjlaa.QFnExactDoms Go.Proofs.YtlamooicofkjlaaW.PrintWords Go.Proofs.YtlamooicofkjlaaW.PrintLast
set_option linter.unusedSimpArgs false
set_option linter.unusedVariables false

/-- The same value, or one of the same kind. -/
def Kin (u u' : Value) : Prop := u' = u ∨ (∃ a b, u = .int .i64 a ∧ u' = .int .i64 b) ∨ (∃ a b, u = .bool a ∧ u' = .bool b)
theorem Kin.trans {u v w : Value} (h : Kin u v) (k : Kin v w) : Kin u w := by
  rcases h with rfl | ⟨a, b, rfl, rfl⟩ | ⟨a, b, rfl, rfl⟩
  · exact k
  · rcases k with rfl | ⟨c, d, _, rfl⟩ | ⟨c, d, e, _⟩
    · exact .inr (.inl ⟨a, b, rfl, rfl⟩)
    · exact .inr (.inl ⟨a, d, rfl, rfl⟩)
    · cases e
  · rcases k with rfl | ⟨c, d, e, _⟩ | ⟨c, d, _, rfl⟩
    · exact .inr (.inr ⟨a, b, rfl, rfl⟩)
    · cases e
    · exact .inr (.inr ⟨a, d, rfl, rfl⟩)
theorem Kin.int {z : Int} {u : Value} (h : Kin (.int .i64 z) u) : ∃ y, u = .int .i64 y := by
  rcases h with rfl | ⟨_, b, _, rfl⟩ | ⟨_, _, e, _⟩
  · exact ⟨z, rfl⟩
  · exact ⟨b, rfl⟩
  · cases e
theorem Kin.bool {z : Bool} {u : Value} (h : Kin (.bool z) u) : ∃ y, u = .bool y := by
  rcases h with rfl | ⟨_, _, e, _⟩ | ⟨_, b, _, rfl⟩
  · exact ⟨z, rfl⟩
  · cases e
  · exact ⟨b, rfl⟩
theorem Kin.slice {A : Option Addr} {n c : Nat} {u : Value} (h : Kin (.slice A n c) u) : u = .slice A n c := by
  rcases h with rfl | ⟨_, _, e, _⟩ | ⟨_, _, e, _⟩
  · rfl
  · cases e
  · cases e

/-- Written only within F, kind over kind. -/
structure Sim (F : Nat → Prop) (w w' : World) : Prop where
  os : w'.os = w.os
  tape : w'.tape = w.tape
  output : w'.output = w.output
  size : w'.heap.size = w.heap.size
  far : ∀ k, ¬ F k → w'.heap[k]? = w.heap[k]?
  near : ∀ (k : Nat) (cs : Array Value) (t : Nat), w.heap[k]? = some (.cells cs t (0, 0)) → ∃ cs', w'.heap[k]? = some (.cells cs' t (0, 0)) ∧ ∀ (j : Nat) (u : Value), cs[j]? = some u → ∃ u', cs'[j]? = some u' ∧ Kin u u'
theorem Sim.refl (F : Nat → Prop) (w : World) : Sim F w w := ⟨rfl, rfl, rfl, rfl, fun _ _ => rfl, fun _ cs _ h => ⟨cs, h, fun _ u hu => ⟨u, hu, .inl rfl⟩⟩⟩
theorem Sim.trans {F : Nat → Prop} {w w1 w2 : World} (h : Sim F w w1) (k : Sim F w1 w2) : Sim F w w2 := by
  refine ⟨k.os.trans h.os, k.tape.trans h.tape, k.output.trans h.output, k.size.trans h.size, fun b hb => (k.far b hb).trans (h.far b hb), fun b cs t hb => ?_⟩
  obtain ⟨cs1, h1, h2⟩ := h.near b cs t hb
  obtain ⟨cs2, k1, k2⟩ := k.near b cs1 t h1
  refine ⟨cs2, k1, fun j u hu => ?_⟩
  obtain ⟨u1, g1, g2⟩ := h2 j u hu
  obtain ⟨u2, l1, l2⟩ := k2 j u1 g1
  exact ⟨u2, l1, g2.trans l2⟩
theorem Sim.set {F : Nat → Prop} {w : World} {g j t : Nat} {cs : Array Value} {u u' : Value} (hF : F g) (hb : w.heap[g]? = some (.cells cs t (0, 0))) (hj : cs[j]? = some u) (hk : Kin u u') : Sim F w (w.setCell ⟨g, j, none⟩ u') := by
  have hs : (w.setCell ⟨g, j, none⟩ u').heap[g]? = some (.cells (cs.setIfInBounds j u') t (0, 0)) := by simpa using blk_set hb j u'
  refine ⟨by simp [World.setCell], by simp [World.setCell], by simp [World.setCell], by simp [World.setCell], fun k hn => Below.heap_setCell w ⟨g, j, none⟩ u' k (fun e => hn (by rw [show k = g from e]; exact hF)), fun k ds s hd => ?_⟩
  by_cases e : k = g
  · subst e
    rw [hb] at hd
    injection hd with hd
    injection hd with h1 h2
    subst h1 h2
    refine ⟨_, hs, fun i v hv => ?_⟩
    by_cases e : i = j
    · subst e
      rw [hj] at hv
      injection hv with hv
      subst hv
      have hlt : i < cs.size := (Array.getElem?_eq_some_iff.1 hj).1
      exact ⟨u', by rw [Array.getElem?_setIfInBounds]; simp [hlt], hk⟩
    · exact ⟨v, by rw [Array.getElem?_setIfInBounds]; simp [Ne.symm e, hv], .inl rfl⟩
  · exact ⟨ds, (Below.heap_setCell w ⟨g, j, none⟩ u' k e).trans hd, fun i v hv => ⟨v, hv, .inl rfl⟩⟩

/-- A row within F, of which each cell is as T says. -/
def GR (F : Nat → Prop) (w : World) (v : Value) (n sz : Nat) (T : World → Nat → Value → Prop) : Prop := ∃ A c, v = .slice A n c ∧ (0 < n → ∃ g cs t, A = some ⟨g, 0, none⟩ ∧ F g ∧ w.heap[g]? = some (.cells cs t (0, 0)) ∧ ∀ i, i < n → ∀ j, j < sz → ∃ u, cs[i * sz + j]? = some u ∧ T w j u)
def Stable (F : Nat → Prop) (T : World → Nat → Value → Prop) : Prop := ∀ w w', Sim F w w' → ∀ j u u', Kin u u' → T w j u → T w' j u'
theorem GR.sim {F : Nat → Prop} {w w' : World} {v : Value} {n sz : Nat} {T : World → Nat → Value → Prop} (hT : Stable F T) (h : GR F w v n sz T) (s : Sim F w w') : GR F w' v n sz T := by
  obtain ⟨A, c, e, h⟩ := h
  refine ⟨A, c, e, fun hn => ?_⟩
  obtain ⟨g, cs, t, e1, hF, hb, hc⟩ := h hn
  obtain ⟨cs', hb', hc'⟩ := s.near g cs t hb
  refine ⟨g, cs', t, e1, hF, hb', fun i hi j hj => ?_⟩
  obtain ⟨u, hu, hT1⟩ := hc i hi j hj
  obtain ⟨u', hu', hk⟩ := hc' _ u hu
  exact ⟨u', hu', hT w w' s j u u' hk hT1⟩
def TI (_ : World) (_ : Nat) (u : Value) : Prop := ∃ z, u = .int .i64 z
def TV (F : Nat → Prop) (w : World) (j : Nat) (u : Value) : Prop := (j = 0 → ∃ z, u = .int .i64 z) ∧ (j = 1 → ∃ z, u = .int .i64 z) ∧ (j = 2 → ∃ z, u = .int .i64 z) ∧ (j = 3 → ∃ z, u = .int .i64 z) ∧ (j = 4 → ∃ n, n ≤ 1048576 ∧ GR F w u n 1 TI)
def TG (F : Nat → Prop) (w : World) (j : Nat) (u : Value) : Prop := (j = 0 → ∃ z, u = .int .i64 z) ∧ (j = 1 → ∃ n, n ≤ 1048576 ∧ GR F w u n 1 TI)
def TK (F : Nat → Prop) (w : World) (j : Nat) (u : Value) : Prop := (j = 0 → ∃ n, n ≤ 1048576 ∧ GR F w u n 1 TI) ∧ (j = 1 → ∃ n, n ≤ 1048576 ∧ GR F w u n 1 TI) ∧ (j = 2 → ∃ z, u = .int .i64 z) ∧ (j = 3 → ∃ n, n ≤ 1048576 ∧ GR F w u n 1 TI) ∧ (j = 4 → ∃ n, n ≤ 1048576 ∧ GR F w u n 2 (TG F))
theorem stI (F : Nat → Prop) : Stable F TI := fun _ _ _ _ _ _ hk ⟨z, e⟩ => by subst e; exact hk.int
theorem GR.kin {F : Nat → Prop} {w : World} {u u' : Value} {n sz : Nat} {T : World → Nat → Value → Prop} (h : GR F w u n sz T) (hk : Kin u u') : u' = u := by
  obtain ⟨A, c, rfl, _⟩ := h
  exact hk.slice
theorem stV (F : Nat → Prop) : Stable F (TV F) := fun w w' s j u u' hk h =>
  ⟨fun e => by obtain ⟨z, rfl⟩ := h.1 e; exact hk.int, fun e => by obtain ⟨z, rfl⟩ := h.2.1 e; exact hk.int, fun e => by obtain ⟨z, rfl⟩ := h.2.2.1 e; exact hk.int, fun e => by obtain ⟨z, rfl⟩ := h.2.2.2.1 e; exact hk.int, fun e => by obtain ⟨n, hn, hg⟩ := h.2.2.2.2 e; rw [hg.kin hk]; exact ⟨n, hn, hg.sim (stI F) s⟩⟩
theorem stG (F : Nat → Prop) : Stable F (TG F) := fun w w' s j u u' hk h =>
  ⟨fun e => by obtain ⟨z, rfl⟩ := h.1 e; exact hk.int, fun e => by obtain ⟨n, hn, hg⟩ := h.2 e; rw [hg.kin hk]; exact ⟨n, hn, hg.sim (stI F) s⟩⟩
theorem stK (F : Nat → Prop) : Stable F (TK F) := fun w w' s j u u' hk h =>
  ⟨fun e => by obtain ⟨n, hn, hg⟩ := h.1 e; rw [hg.kin hk]; exact ⟨n, hn, hg.sim (stI F) s⟩, fun e => by obtain ⟨n, hn, hg⟩ := h.2.1 e; rw [hg.kin hk]; exact ⟨n, hn, hg.sim (stI F) s⟩, fun e => by obtain ⟨z, rfl⟩ := h.2.2.1 e; exact hk.int, fun e => by obtain ⟨n, hn, hg⟩ := h.2.2.2.1 e; rw [hg.kin hk]; exact ⟨n, hn, hg.sim (stI F) s⟩, fun e => by obtain ⟨n, hn, hg⟩ := h.2.2.2.2 e; rw [hg.kin hk]; exact ⟨n, hn, hg.sim (stG F) s⟩⟩

/-- What is made later leaves it as it is. -/
theorem GR.below {F : Nat → Prop} {w w1 : World} {v : Value} {n sz : Nat} {T : World → Nat → Value → Prop} (hb : Below w.heap.size w w1) (hT : ∀ u j, T w j u → T w1 j u) (h : GR F w v n sz T) : GR F w1 v n sz T := by
  obtain ⟨A, c, e, h⟩ := h
  refine ⟨A, c, e, fun hn => ?_⟩
  obtain ⟨g, cs, t, e1, hF, hc, hcc⟩ := h hn
  exact ⟨g, cs, t, e1, hF, blk_below hc hb, fun i hi j hj => by obtain ⟨u, hu, h2⟩ := hcc i hi j hj; exact ⟨u, hu, hT u j h2⟩⟩
theorem rowI_below {F : Nat → Prop} {w w1 : World} {u : Value} (hb : Below w.heap.size w w1) (h : ∃ n, n ≤ 1048576 ∧ GR F w u n 1 TI) : ∃ n, n ≤ 1048576 ∧ GR F w1 u n 1 TI := by
  obtain ⟨n, hn, hg⟩ := h; exact ⟨n, hn, hg.below hb (fun _ _ h => h)⟩
theorem tv_below {F : Nat → Prop} {w w1 : World} {j : Nat} {u : Value} (hb : Below w.heap.size w w1) (h : TV F w j u) : TV F w1 j u := ⟨h.1, h.2.1, h.2.2.1, h.2.2.2.1, fun e => rowI_below hb (h.2.2.2.2 e)⟩
theorem tg_below {F : Nat → Prop} {w w1 : World} {j : Nat} {u : Value} (hb : Below w.heap.size w w1) (h : TG F w j u) : TG F w1 j u := ⟨h.1, fun e => rowI_below hb (h.2 e)⟩
theorem tk_below {F : Nat → Prop} {w w1 : World} {j : Nat} {u : Value} (hb : Below w.heap.size w w1) (h : TK F w j u) : TK F w1 j u :=
  ⟨fun e => rowI_below hb (h.1 e), fun e => rowI_below hb (h.2.1 e), h.2.2.1, fun e => rowI_below hb (h.2.2.2.1 e), fun e => by obtain ⟨n, hn, hg⟩ := h.2.2.2.2 e; exact ⟨n, hn, hg.below hb (fun u j h => tg_below hb h)⟩⟩
def Marks (F : Nat → Prop) (w : World) (lo hi : Int) (e : Ending) (w' : World) : Prop := ∃ K, e = .returned (.int .i64 K) ∧ lo ≤ K ∧ K ≤ hi ∧ Sim F w w'

set_option maxHeartbeats 4000000 in
set_option maxRecDepth 100000 in
theorem markI_c (F : Nat → Prop) (w : World) (v : Value) (n : Nat) (k : Int) (h : GR F w v n 1 TI) (hn : n ≤ 1048576) (h0 : 0 ≤ k) (h1 : k ≤ 4611686018427387904) : Calls Try.prog 11 #[v, .int .i64 k] w (Marks F w k (k + n)) := by
  have HG := Lib.hid h
  obtain ⟨A, c, rfl, _⟩ := h
  go_enter Try.func11, Try.ntmps11
  go_wp2
  go_loopw [1, 5] (fun v1 v5 wr => ∃ i : Nat, v5 = .int .i64 i ∧ v1 = .int .i64 (k + i) ∧ i ≤ n ∧ Hid (Sim F w wr)) (fun _ v5 _ => (n - intOf v5).toNat)
  case atStart => exact ⟨0, rfl, by simp, by omega, Lib.hid (Sim.refl _ _)⟩
  case round =>
    obtain ⟨i, rfl, rfl, hi, HS⟩ := hrel
    by_cases hlt : i < n
    · have p0 : (0 : Int) ≤ (i : Int) := by omega
      have q0 : (i : Int) < (n : Int) := by omega
      obtain ⟨A', c', e1, hg⟩ := HG.out.sim (stI F) HS.out
      injection e1 with e1 _ e2
      subst e1 e2
      obtain ⟨g, cs, t, rfl, hF, hb, hc⟩ := hg (by omega)
      obtain ⟨u, hu, z, rfl⟩ := hc i hlt 0 (by decide)
      rw [Nat.mul_one, Nat.add_zero] at hu
      have z0 := (blk_cell hb i).trans hu
      have f0 := blk_frozen hb i
      have HSt : Hid (∀ y, Sim F wr (wr.setCell ⟨g, i, none⟩ (.int .i64 y))) := Lib.hid (fun y => Sim.set hF hb hu (.inr (.inl ⟨_, _, rfl, rfl⟩)))
      clear hg hF hb hc hu
      go_wp2
      go_roundw
      case rel => exact ⟨i + 1, by go_num, by go_num, by omega, Lib.hid (HS.out.trans (HSt.out _))⟩
      case measure => simp [intOf]; omega
    · obtain rfl : i = n := by omega
      go_wp2
      go_ret
      exact ⟨k + i, rfl, by omega, by omega, HS.out⟩

set_option maxHeartbeats 8000000 in
set_option maxRecDepth 100000 in
theorem markT_c (F : Nat → Prop) (w : World) (v : Value) (n : Nat) (k : Int) (h : GR F w v n 2 TI) (hn : n ≤ 1048576) (h0 : 0 ≤ k) (h1 : k ≤ 2305843009213693952) : Calls Try.prog 28 #[v, .int .i64 k] w (Marks F w k (k + n * 2)) := by
  have HG := Lib.hid h
  obtain ⟨A, c, rfl, hA⟩ := h
  by_cases hnz : n = 0
  · subst hnz
    clear hA
    go_enter Try.func28, Try.ntmps28
    go_wp2
    go_loopw [1, 5] (fun v1 v5 wr => v5 = .int .i64 0 ∧ v1 = .int .i64 k ∧ wr = w) (fun _ _ _ => 0)
    case atStart => exact ⟨rfl, rfl, rfl⟩
    case round =>
      obtain ⟨rfl, rfl, rfl⟩ := hrel
      go_wp2
      go_ret
      exact ⟨k, rfl, by omega, by omega, Sim.refl _ _⟩
  obtain ⟨g, _, _, rfl, _, _, _⟩ := hA (by omega)
  clear hA
  have HR : Hid (∀ w1, Sim F w w1 → ∃ cs t, F g ∧ w1.heap[g]? = some (.cells cs t (0, 0)) ∧ ∀ i, i < n → ∀ j, j < 2 → ∃ u, cs[i * 2 + j]? = some u ∧ TI w1 j u) := Lib.hid (fun w1 s => by
    obtain ⟨A', c', e1, hg⟩ := HG.out.sim (stI F) s
    injection e1 with e1 _ _
    obtain ⟨g', cs, t, e3, hF, hb, hc⟩ := hg (by omega)
    rw [← e1] at e3
    injection e3 with e3
    injection e3 with e3
    subst e3
    exact ⟨cs, t, hF, hb, hc⟩)
  go_enter Try.func28, Try.ntmps28
  go_wp2
  go_loopw [1, 5] (fun v1 v5 wr => ∃ (i : Nat) (q : Int), v5 = .int .i64 i ∧ v1 = .int .i64 q ∧ i ≤ n ∧ k ≤ q ∧ q ≤ k + i * 2 ∧ Hid (Sim F w wr)) (fun _ v5 _ => (n - intOf v5).toNat)
  case atStart => exact ⟨0, k, rfl, rfl, by omega, by omega, by omega, Lib.hid (Sim.refl _ _)⟩
  case round =>
    obtain ⟨i, q, rfl, rfl, hi, hq0, hq1, HS⟩ := hrel
    by_cases hlt : i < n
    · have p0 : (0 : Int) ≤ (i : Int) := by omega
      have q0 : (i : Int) < (n : Int) := by omega
      obtain ⟨cs, t, hF, hb, hc⟩ := HR.out _ HS.out
      obtain ⟨u, hu, hT⟩ := hc i hlt 0 (by decide)
      obtain ⟨z, rfl⟩ := hT
      have z0 := (blk_cell hb (i * 2)).trans hu
      have f0 := blk_frozen hb (i * 2)
      have HSt0 : Hid (∀ y, Sim F _ (World.setCell _ ⟨g, i * 2, none⟩ (.int .i64 y))) := Lib.hid (fun y => Sim.set hF hb hu (.inr (.inl ⟨_, _, rfl, rfl⟩)))
      clear hF hb hc hu
      (try clear hT)
      go_upto_region 6 with fail
      clear z0 f0
      generalize hw0 : World.setCell _ ⟨g, _, none⟩ _ = w0
      have HS0 : Hid (Sim F w w0) := Lib.hid (by rw [← hw0]; exact HS.out.trans (HSt0.out _))
      clear HSt0 hw0
      obtain ⟨cs, t, hF, hb, hc⟩ := HR.out _ HS0.out
      obtain ⟨u, hu, hT⟩ := hc i hlt 1 (by decide)
      obtain ⟨z, rfl⟩ := hT
      have z1 := (blk_cell hb (i * 2 + 1)).trans hu
      have f1 := blk_frozen hb (i * 2 + 1)
      have HSt1 : Hid (∀ y, Sim F _ (World.setCell _ ⟨g, i * 2 + 1, none⟩ (.int .i64 y))) := Lib.hid (fun y => Sim.set hF hb hu (.inr (.inl ⟨_, _, rfl, rfl⟩)))
      clear hF hb hc hu
      (try clear hT)
      go_wp2
      go_roundw
      case rel => exact ⟨i + 1, _, by go_num, rfl, by omega, by omega, by omega, Lib.hid (HS0.out.trans (HSt1.out _))⟩
      case measure => simp [intOf]; omega
    · obtain rfl : i = n := by omega
      go_wp2
      go_ret
      exact ⟨q, rfl, hq0, hq1, HS.out⟩

set_option maxHeartbeats 8000000 in
set_option maxRecDepth 100000 in
theorem markV_c (F : Nat → Prop) (w : World) (v : Value) (n : Nat) (k : Int) (h : GR F w v n 5 (TV F)) (hn : n ≤ 1048576) (h0 : 0 ≤ k) (h1 : k ≤ 2305843009213693952) : Calls Try.prog 29 #[v, .int .i64 k] w (Marks F w k (k + n * 1048580)) := by
  have HG := Lib.hid h
  obtain ⟨A, c, rfl, hA⟩ := h
  by_cases hnz : n = 0
  · subst hnz
    clear hA
    go_enter Try.func29, Try.ntmps29
    go_wp2
    go_loopw [1, 5] (fun v1 v5 wr => v5 = .int .i64 0 ∧ v1 = .int .i64 k ∧ wr = w) (fun _ _ _ => 0)
    case atStart => exact ⟨rfl, rfl, rfl⟩
    case round =>
      obtain ⟨rfl, rfl, rfl⟩ := hrel
      go_wp2
      go_ret
      exact ⟨k, rfl, by omega, by omega, Sim.refl _ _⟩
  obtain ⟨g, _, _, rfl, _, _, _⟩ := hA (by omega)
  clear hA
  have HR : Hid (∀ w1, Sim F w w1 → ∃ cs t, F g ∧ w1.heap[g]? = some (.cells cs t (0, 0)) ∧ ∀ i, i < n → ∀ j, j < 5 → ∃ u, cs[i * 5 + j]? = some u ∧ (TV F) w1 j u) := Lib.hid (fun w1 s => by
    obtain ⟨A', c', e1, hg⟩ := HG.out.sim (stV F) s
    injection e1 with e1 _ _
    obtain ⟨g', cs, t, e3, hF, hb, hc⟩ := hg (by omega)
    rw [← e1] at e3
    injection e3 with e3
    injection e3 with e3
    subst e3
    exact ⟨cs, t, hF, hb, hc⟩)
  go_enter Try.func29, Try.ntmps29
  go_wp2
  go_loopw [1, 5] (fun v1 v5 wr => ∃ (i : Nat) (q : Int), v5 = .int .i64 i ∧ v1 = .int .i64 q ∧ i ≤ n ∧ k ≤ q ∧ q ≤ k + i * 1048580 ∧ Hid (Sim F w wr)) (fun _ v5 _ => (n - intOf v5).toNat)
  case atStart => exact ⟨0, k, rfl, rfl, by omega, by omega, by omega, Lib.hid (Sim.refl _ _)⟩
  case round =>
    obtain ⟨i, q, rfl, rfl, hi, hq0, hq1, HS⟩ := hrel
    by_cases hlt : i < n
    · have p0 : (0 : Int) ≤ (i : Int) := by omega
      have q0 : (i : Int) < (n : Int) := by omega
      obtain ⟨cs, t, hF, hb, hc⟩ := HR.out _ HS.out
      obtain ⟨u, hu, hT⟩ := hc i hlt 0 (by decide)
      obtain ⟨z, rfl⟩ := hT.1 rfl
      have z0 := (blk_cell hb (i * 5)).trans hu
      have f0 := blk_frozen hb (i * 5)
      have HSt0 : Hid (∀ y, Sim F _ (World.setCell _ ⟨g, i * 5, none⟩ (.int .i64 y))) := Lib.hid (fun y => Sim.set hF hb hu (.inr (.inl ⟨_, _, rfl, rfl⟩)))
      clear hF hb hc hu
      (try clear hT)
      go_upto_region 6 with fail
      clear z0 f0
      generalize hw0 : World.setCell _ ⟨g, _, none⟩ _ = w0
      have HS0 : Hid (Sim F w w0) := Lib.hid (by rw [← hw0]; exact HS.out.trans (HSt0.out _))
      clear HSt0 hw0
      obtain ⟨cs, t, hF, hb, hc⟩ := HR.out _ HS0.out
      obtain ⟨u, hu, hT⟩ := hc i hlt 1 (by decide)
      obtain ⟨z, rfl⟩ := hT.2.1 rfl
      have z1 := (blk_cell hb (i * 5 + 1)).trans hu
      have f1 := blk_frozen hb (i * 5 + 1)
      have HSt1 : Hid (∀ y, Sim F _ (World.setCell _ ⟨g, i * 5 + 1, none⟩ (.int .i64 y))) := Lib.hid (fun y => Sim.set hF hb hu (.inr (.inl ⟨_, _, rfl, rfl⟩)))
      clear hF hb hc hu
      (try clear hT)
      go_upto_region 8 with fail
      clear z1 f1
      generalize hw1 : World.setCell _ ⟨g, _, none⟩ _ = w1
      have HS1 : Hid (Sim F w w1) := Lib.hid (by rw [← hw1]; exact HS0.out.trans (HSt1.out _))
      clear HSt1 hw1
      obtain ⟨cs, t, hF, hb, hc⟩ := HR.out _ HS1.out
      obtain ⟨u, hu, hT⟩ := hc i hlt 2 (by decide)
      obtain ⟨z, rfl⟩ := hT.2.2.1 rfl
      have z2 := (blk_cell hb (i * 5 + 2)).trans hu
      have f2 := blk_frozen hb (i * 5 + 2)
      have HSt2 : Hid (∀ y, Sim F _ (World.setCell _ ⟨g, i * 5 + 2, none⟩ (.int .i64 y))) := Lib.hid (fun y => Sim.set hF hb hu (.inr (.inl ⟨_, _, rfl, rfl⟩)))
      clear hF hb hc hu
      (try clear hT)
      go_upto_region 10 with fail
      clear z2 f2
      generalize hw2 : World.setCell _ ⟨g, _, none⟩ _ = w2
      have HS2 : Hid (Sim F w w2) := Lib.hid (by rw [← hw2]; exact HS1.out.trans (HSt2.out _))
      clear HSt2 hw2
      obtain ⟨cs, t, hF, hb, hc⟩ := HR.out _ HS2.out
      obtain ⟨u, hu, hT⟩ := hc i hlt 3 (by decide)
      obtain ⟨z, rfl⟩ := hT.2.2.2.1 rfl
      have z3 := (blk_cell hb (i * 5 + 3)).trans hu
      have f3 := blk_frozen hb (i * 5 + 3)
      have HSt3 : Hid (∀ y, Sim F _ (World.setCell _ ⟨g, i * 5 + 3, none⟩ (.int .i64 y))) := Lib.hid (fun y => Sim.set hF hb hu (.inr (.inl ⟨_, _, rfl, rfl⟩)))
      clear hF hb hc hu
      (try clear hT)
      go_upto_region 12 with fail
      clear z3 f3
      generalize hw3 : World.setCell _ ⟨g, _, none⟩ _ = w3
      have HS3 : Hid (Sim F w w3) := Lib.hid (by rw [← hw3]; exact HS2.out.trans (HSt3.out _))
      clear HSt3 hw3
      obtain ⟨cs, t, hF, hb, hc⟩ := HR.out _ HS3.out
      obtain ⟨u, hu, hT⟩ := hc i hlt 4 (by decide)
      obtain ⟨m4, hm4, hg⟩ := hT.2.2.2.2 rfl
      have HGm := Lib.hid hg
      obtain ⟨A4, c4, rfl, _⟩ := hg
      have z4 := (blk_cell hb (i * 5 + 4)).trans hu
      clear hF hb hc hu
      (try clear hT)
      go_wp2_with fail
      refine (markI_c F _ _ m4 _ HGm.out hm4 ?_ ?_).mono ?_
      · omega
      · omega
      rintro e wx4 ⟨q4, rfl, hq4a, hq4b, hs⟩
      have HS4 := Lib.hid (HS3.out.trans hs)
      clear hs HGm z4
      go_wp2
      go_roundw
      case rel => exact ⟨i + 1, _, by go_num, rfl, by omega, by omega, by omega, HS4⟩
      case measure => simp [intOf]; omega
    · obtain rfl : i = n := by omega
      go_wp2
      go_ret
      exact ⟨q, rfl, hq0, hq1, HS.out⟩

set_option maxHeartbeats 8000000 in
set_option maxRecDepth 100000 in
theorem markG_c (F : Nat → Prop) (w : World) (v : Value) (n : Nat) (k : Int) (h : GR F w v n 2 (TG F)) (hn : n ≤ 1048576) (h0 : 0 ≤ k) (h1 : k ≤ 2305843009213693952) : Calls Try.prog 44 #[v, .int .i64 k] w (Marks F w k (k + n * 1048577)) := by
  have HG := Lib.hid h
  obtain ⟨A, c, rfl, hA⟩ := h
  by_cases hnz : n = 0
  · subst hnz
    clear hA
    go_enter Try.func44, Try.ntmps44
    go_wp2
    go_loopw [1, 5] (fun v1 v5 wr => v5 = .int .i64 0 ∧ v1 = .int .i64 k ∧ wr = w) (fun _ _ _ => 0)
    case atStart => exact ⟨rfl, rfl, rfl⟩
    case round =>
      obtain ⟨rfl, rfl, rfl⟩ := hrel
      go_wp2
      go_ret
      exact ⟨k, rfl, by omega, by omega, Sim.refl _ _⟩
  obtain ⟨g, _, _, rfl, _, _, _⟩ := hA (by omega)
  clear hA
  have HR : Hid (∀ w1, Sim F w w1 → ∃ cs t, F g ∧ w1.heap[g]? = some (.cells cs t (0, 0)) ∧ ∀ i, i < n → ∀ j, j < 2 → ∃ u, cs[i * 2 + j]? = some u ∧ (TG F) w1 j u) := Lib.hid (fun w1 s => by
    obtain ⟨A', c', e1, hg⟩ := HG.out.sim (stG F) s
    injection e1 with e1 _ _
    obtain ⟨g', cs, t, e3, hF, hb, hc⟩ := hg (by omega)
    rw [← e1] at e3
    injection e3 with e3
    injection e3 with e3
    subst e3
    exact ⟨cs, t, hF, hb, hc⟩)
  go_enter Try.func44, Try.ntmps44
  go_wp2
  go_loopw [1, 5] (fun v1 v5 wr => ∃ (i : Nat) (q : Int), v5 = .int .i64 i ∧ v1 = .int .i64 q ∧ i ≤ n ∧ k ≤ q ∧ q ≤ k + i * 1048577 ∧ Hid (Sim F w wr)) (fun _ v5 _ => (n - intOf v5).toNat)
  case atStart => exact ⟨0, k, rfl, rfl, by omega, by omega, by omega, Lib.hid (Sim.refl _ _)⟩
  case round =>
    obtain ⟨i, q, rfl, rfl, hi, hq0, hq1, HS⟩ := hrel
    by_cases hlt : i < n
    · have p0 : (0 : Int) ≤ (i : Int) := by omega
      have q0 : (i : Int) < (n : Int) := by omega
      obtain ⟨cs, t, hF, hb, hc⟩ := HR.out _ HS.out
      obtain ⟨u, hu, hT⟩ := hc i hlt 0 (by decide)
      obtain ⟨z, rfl⟩ := hT.1 rfl
      have z0 := (blk_cell hb (i * 2)).trans hu
      have f0 := blk_frozen hb (i * 2)
      have HSt0 : Hid (∀ y, Sim F _ (World.setCell _ ⟨g, i * 2, none⟩ (.int .i64 y))) := Lib.hid (fun y => Sim.set hF hb hu (.inr (.inl ⟨_, _, rfl, rfl⟩)))
      clear hF hb hc hu
      (try clear hT)
      go_upto_region 6 with fail
      clear z0 f0
      generalize hw0 : World.setCell _ ⟨g, _, none⟩ _ = w0
      have HS0 : Hid (Sim F w w0) := Lib.hid (by rw [← hw0]; exact HS.out.trans (HSt0.out _))
      clear HSt0 hw0
      obtain ⟨cs, t, hF, hb, hc⟩ := HR.out _ HS0.out
      obtain ⟨u, hu, hT⟩ := hc i hlt 1 (by decide)
      obtain ⟨m1, hm1, hg⟩ := hT.2 rfl
      have HGm := Lib.hid hg
      obtain ⟨A1, c1, rfl, _⟩ := hg
      have z1 := (blk_cell hb (i * 2 + 1)).trans hu
      clear hF hb hc hu
      (try clear hT)
      go_wp2_with fail
      refine (markI_c F _ _ m1 _ HGm.out hm1 ?_ ?_).mono ?_
      · omega
      · omega
      rintro e wx1 ⟨q1, rfl, hq1a, hq1b, hs⟩
      have HS1 := Lib.hid (HS0.out.trans hs)
      clear hs HGm z1
      go_wp2
      go_roundw
      case rel => exact ⟨i + 1, _, by go_num, rfl, by omega, by omega, by omega, HS1⟩
      case measure => simp [intOf]; omega
    · obtain rfl : i = n := by omega
      go_wp2
      go_ret
      exact ⟨q, rfl, hq0, hq1, HS.out⟩

set_option maxHeartbeats 8000000 in
set_option maxRecDepth 100000 in
theorem markK_c (F : Nat → Prop) (w : World) (v : Value) (n : Nat) (k : Int) (h : GR F w v n 5 (TK F)) (hn : n ≤ 1048576) (h0 : 0 ≤ k) (h1 : k ≤ 1125899906842624) : Calls Try.prog 30 #[v, .int .i64 k] w (Marks F w k (k + n * 1099515822081)) := by
  have HG := Lib.hid h
  obtain ⟨A, c, rfl, hA⟩ := h
  by_cases hnz : n = 0
  · subst hnz
    clear hA
    go_enter Try.func30, Try.ntmps30
    go_wp2
    go_loopw [1, 5] (fun v1 v5 wr => v5 = .int .i64 0 ∧ v1 = .int .i64 k ∧ wr = w) (fun _ _ _ => 0)
    case atStart => exact ⟨rfl, rfl, rfl⟩
    case round =>
      obtain ⟨rfl, rfl, rfl⟩ := hrel
      go_wp2
      go_ret
      exact ⟨k, rfl, by omega, by omega, Sim.refl _ _⟩
  obtain ⟨g, _, _, rfl, _, _, _⟩ := hA (by omega)
  clear hA
  have HR : Hid (∀ w1, Sim F w w1 → ∃ cs t, F g ∧ w1.heap[g]? = some (.cells cs t (0, 0)) ∧ ∀ i, i < n → ∀ j, j < 5 → ∃ u, cs[i * 5 + j]? = some u ∧ (TK F) w1 j u) := Lib.hid (fun w1 s => by
    obtain ⟨A', c', e1, hg⟩ := HG.out.sim (stK F) s
    injection e1 with e1 _ _
    obtain ⟨g', cs, t, e3, hF, hb, hc⟩ := hg (by omega)
    rw [← e1] at e3
    injection e3 with e3
    injection e3 with e3
    subst e3
    exact ⟨cs, t, hF, hb, hc⟩)
  go_enter Try.func30, Try.ntmps30
  go_wp2
  go_loopw [1, 5] (fun v1 v5 wr => ∃ (i : Nat) (q : Int), v5 = .int .i64 i ∧ v1 = .int .i64 q ∧ i ≤ n ∧ k ≤ q ∧ q ≤ k + i * 1099515822081 ∧ Hid (Sim F w wr)) (fun _ v5 _ => (n - intOf v5).toNat)
  case atStart => exact ⟨0, k, rfl, rfl, by omega, by omega, by omega, Lib.hid (Sim.refl _ _)⟩
  case round =>
    obtain ⟨i, q, rfl, rfl, hi, hq0, hq1, HS⟩ := hrel
    by_cases hlt : i < n
    · have p0 : (0 : Int) ≤ (i : Int) := by omega
      have q0 : (i : Int) < (n : Int) := by omega
      obtain ⟨cs, t, hF, hb, hc⟩ := HR.out _ HS.out
      obtain ⟨u, hu, hT⟩ := hc i hlt 0 (by decide)
      obtain ⟨m0, hm0, hg⟩ := hT.1 rfl
      have HGm := Lib.hid hg
      obtain ⟨A0, c0, rfl, _⟩ := hg
      have z0 := (blk_cell hb (i * 5)).trans hu
      clear hF hb hc hu
      (try clear hT)
      go_wp2_with fail
      refine (markI_c F _ _ m0 _ HGm.out hm0 ?_ ?_).mono ?_
      · omega
      · omega
      rintro e wx0 ⟨q0, rfl, hq0a, hq0b, hs⟩
      have HS0 := Lib.hid (HS.out.trans hs)
      clear hs HGm z0
      obtain ⟨cs, t, hF, hb, hc⟩ := HR.out _ HS0.out
      obtain ⟨u, hu, hT⟩ := hc i hlt 1 (by decide)
      obtain ⟨m1, hm1, hg⟩ := hT.2.1 rfl
      have HGm := Lib.hid hg
      obtain ⟨A1, c1, rfl, _⟩ := hg
      have z1 := (blk_cell hb (i * 5 + 1)).trans hu
      clear hF hb hc hu
      (try clear hT)
      go_wp2_with fail
      refine (markI_c F _ _ m1 _ HGm.out hm1 ?_ ?_).mono ?_
      · omega
      · omega
      rintro e wx1 ⟨q1, rfl, hq1a, hq1b, hs⟩
      have HS1 := Lib.hid (HS0.out.trans hs)
      clear hs HGm z1
      obtain ⟨cs, t, hF, hb, hc⟩ := HR.out _ HS1.out
      obtain ⟨u, hu, hT⟩ := hc i hlt 2 (by decide)
      obtain ⟨z, rfl⟩ := hT.2.2.1 rfl
      have z2 := (blk_cell hb (i * 5 + 2)).trans hu
      have f2 := blk_frozen hb (i * 5 + 2)
      have HSt2 : Hid (∀ y, Sim F _ (World.setCell _ ⟨g, i * 5 + 2, none⟩ (.int .i64 y))) := Lib.hid (fun y => Sim.set hF hb hu (.inr (.inl ⟨_, _, rfl, rfl⟩)))
      clear hF hb hc hu
      (try clear hT)
      go_upto_region 8 with fail
      clear z2 f2
      generalize hw2 : World.setCell _ ⟨g, _, none⟩ _ = w2
      have HS2 : Hid (Sim F w w2) := Lib.hid (by rw [← hw2]; exact HS1.out.trans (HSt2.out _))
      clear HSt2 hw2
      obtain ⟨cs, t, hF, hb, hc⟩ := HR.out _ HS2.out
      obtain ⟨u, hu, hT⟩ := hc i hlt 3 (by decide)
      obtain ⟨m3, hm3, hg⟩ := hT.2.2.2.1 rfl
      have HGm := Lib.hid hg
      obtain ⟨A3, c3, rfl, _⟩ := hg
      have z3 := (blk_cell hb (i * 5 + 3)).trans hu
      clear hF hb hc hu
      (try clear hT)
      go_wp2_with fail
      refine (markI_c F _ _ m3 _ HGm.out hm3 ?_ ?_).mono ?_
      · omega
      · omega
      rintro e wx3 ⟨q3, rfl, hq3a, hq3b, hs⟩
      have HS3 := Lib.hid (HS2.out.trans hs)
      clear hs HGm z3
      obtain ⟨cs, t, hF, hb, hc⟩ := HR.out _ HS3.out
      obtain ⟨u, hu, hT⟩ := hc i hlt 4 (by decide)
      obtain ⟨m4, hm4, hg⟩ := hT.2.2.2.2 rfl
      have HGm := Lib.hid hg
      obtain ⟨A4, c4, rfl, _⟩ := hg
      have z4 := (blk_cell hb (i * 5 + 4)).trans hu
      clear hF hb hc hu
      (try clear hT)
      go_wp2_with fail
      refine (markG_c F _ _ m4 _ HGm.out hm4 ?_ ?_).mono ?_
      · omega
      · omega
      rintro e wx4 ⟨q4, rfl, hq4a, hq4b, hs⟩
      have HS4 := Lib.hid (HS3.out.trans hs)
      clear hs HGm z4
      go_wp2
      go_roundw
      case rel => exact ⟨i + 1, _, by go_num, rfl, by omega, by omega, by omega, HS4⟩
      case measure => simp [intOf]; omega
    · obtain rfl : i = n := by omega
      go_wp2
      go_ret
      exact ⟨q, rfl, hq0, hq1, HS.out⟩

set_option maxHeartbeats 8000000 in
set_option maxRecDepth 100000 in
theorem markFn_c (F : Nat → Prop) (w : World) (v0 v3 v4 : Value) (n0 n3 n4 : Nat) (a1 a2 k : Int) (hv0 : GR F w v0 n0 2 TI) (hv3 : GR F w v3 n3 5 (TV F)) (hv4 : GR F w v4 n4 5 (TK F)) (hn0 : n0 ≤ 1048576) (hn3 : n3 ≤ 1048576) (hn4 : n4 ≤ 1048576) (h0 : 0 ≤ k) (h1 : k ≤ 1048576) (hold : ∀ g, F g → g < w.heap.size) :
    Calls Try.prog 10 #[.agg #[v0, .int .i64 a1, .int .i64 a2, v3, v4], .int .i64 k] w (fun e w' => ∃ K, e = .returned (.int .i64 K) ∧ 0 ≤ K ∧ ∃ w1, Below w.heap.size w w1 ∧ Sim F w1 w') := by
  have HG0 := Lib.hid hv0
  have HG3 := Lib.hid hv3
  have HG4 := Lib.hid hv4
  obtain ⟨A0, c0, rfl, _⟩ := hv0
  obtain ⟨A3, c3, rfl, _⟩ := hv3
  obtain ⟨A4, c4, rfl, _⟩ := hv4
  have hu37 := Try.underlying37
  go_enter Try.func10, Try.ntmps10
  go_upto_region 1 with ((with_reducible refine gate_dst (N := 2) rfl ?_); refine box_event ?hg (N := 2) ?hd (cs := #[.slice A0 n0 c0, .int .i64 a1, .int .i64 a2, .slice A3 n3 c3, .slice A4 n4 c4]) (t := 37) ?hr ?_; (case hd => rfl); (case hg => rfl); (case hr => first | (go_simp; done) | (go_simp; rfl)); intro gb hg w6 hbox hb; have HGb := Lib.hid (Nat.le_of_eq hg.symm); clear hg; have HB := Lib.hid hb; have HX := Lib.hid hbox; clear hbox hb)
  have hFb : Hid (¬ F gb) := Lib.hid (fun h => by have := hold gb h; have := HGb.out; omega)
  have HG0' : Hid (GR F w6 (.slice A0 n0 c0) n0 2 TI) := Lib.hid (GR.below HB.out (fun _ _ h => h) HG0.out)
  have HG3' : Hid (GR F w6 (.slice A3 n3 c3) n3 5 (TV F)) := Lib.hid (GR.below HB.out (fun u j h => tv_below HB.out h) HG3.out)
  have HG4' : Hid (GR F w6 (.slice A4 n4 c4) n4 5 (TK F)) := Lib.hid (GR.below HB.out (fun u j h => tk_below HB.out h) HG4.out)
  clear HG0 HG3 HG4 hold
  have z0 := (blk_cell HX.out 0).trans rfl
  go_wp2_with fail
  refine (markT_c F w6 _ n0 _ HG0'.out hn0 ?_ ?_).mono ?_
  · omega
  · omega
  rintro e w7 ⟨q, rfl, hqa, hqb, hs⟩
  have HS := Lib.hid hs
  have z3 : w7.cell? ⟨gb, 3, none⟩ = some (.slice A3 n3 c3) := (blk_cell ((hs.far gb hFb.out).trans HX.out) 3).trans rfl
  have HG3w := Lib.hid (HG3'.out.sim (stV F) hs)
  clear hs z0
  go_wp2_with fail
  refine (markV_c F w7 _ n3 _ HG3w.out hn3 ?_ ?_).mono ?_
  · omega
  · omega
  rintro e w8 ⟨q1, rfl, hq1a, hq1b, hs⟩
  have HS2 := Lib.hid (HS.out.trans hs)
  have z4 : w8.cell? ⟨gb, 4, none⟩ = some (.slice A4 n4 c4) := (blk_cell ((HS2.out.far gb hFb.out).trans HX.out) 4).trans rfl
  have HG4w := Lib.hid (HG4'.out.sim (stK F) HS2.out)
  clear hs z3
  go_wp2_with fail
  refine (markK_c F w8 _ n4 _ HG4w.out hn4 ?_ ?_).mono ?_
  · omega
  · omega
  rintro e w9 ⟨q2, rfl, hq2a, hq2b, hs⟩
  have HS3 := Lib.hid (HS2.out.trans hs)
  clear hs z4
  go_wp2
  go_ret
  exact ⟨q2, rfl, by omega, w6, HB.out, HS3.out⟩

end Go.Proofs.Ytlamooicofkjlaa.DmFnExactDoms
