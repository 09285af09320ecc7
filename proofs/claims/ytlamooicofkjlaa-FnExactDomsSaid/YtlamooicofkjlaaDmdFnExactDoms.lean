/- What (*impl.Fn).order holds while it walks. -/
import Derived.Test.YtlamooicofkjlaaDmcFnExactDoms
import Derived.Test.YtlamooicofkjlaaDfsP
import Derived.Test.YtlamooicofkjlaaNearP
import Derived.Test.YtlamooicofkjlaaQFnExactDomsx6
import Derived.Deep.LoopGhost
import Derived.Deep.RegionHeldLaw
namespace Go.Proofs.Ytlamooicofkjlaa.DmFnExactDoms
open Go.RowKit Go.Proofs.Ytlamooicofkjlaa.QFnExactDoms Go.Proofs.YtlamooicofkjlaaW.PrintWords Go.Proofs.YtlamooicofkjlaaW.PrintLast Go.Proofs.Ytlamooicofkjlaa.SrFnExactDoms Go.Proofs.Ytlamooicofkjlaa.DomP
open Go.Proofs.Ytlamooicofkjlaa.DfsP (DInv Ord Rc DInv.start DInv.none DInv.pop DInv.skip DInv.push DInv.done)
open Go.Proofs.Ytlamooicofkjlaa.BfsP (nodup_le)
set_option linter.unusedVariables false

theorem info96 : (Try.prog.info? 96).map (fun i => (i.zero, i.size, i.bytes)) = some (some (.agg #[.int .i64 0, .int .i64 0]), 2, 16) := by kernel_rfl
/-- A visit: a block, its next edge. -/
def enc (x : Nat × Nat) : S96 := ⟨(x.1 : Int), (x.2 : Int)⟩
/-- The stack as the program keeps it, its top last. -/
def rows (st : List (Nat × Nat)) : List S96 := st.reverse.map enc
theorem rows_len (st : List (Nat × Nat)) : (rows st).length = st.length := by simp [rows]
theorem rows_cons (x : Nat × Nat) (r : List (Nat × Nat)) : rows (x :: r) = rows r ++ [enc x] := by simp [rows]
theorem rows_top (x : Nat × Nat) (r : List (Nat × Nat)) : rd_T96 (rows (x :: r)) (r.length : Int) = enc x := by
  unfold rd_T96
  rw [Int.toNat_natCast, rows_cons, List.getD_eq_getElem?_getD, List.getElem?_append_right (by rw [rows_len]; exact Nat.le_refl _), rows_len, Nat.sub_self]; rfl
theorem rows_take (x : Nat × Nat) (r : List (Nat × Nat)) : (rows (x :: r)).take r.length = rows r := by
  rw [rows_cons, List.take_append_of_le_length (by rw [rows_len]; exact Nat.le_refl _), List.take_of_length_le (by rw [rows_len]; exact Nat.le_refl _)]
theorem rows_set (x y : Nat × Nat) (r : List (Nat × Nat)) : (rows (x :: r)).set r.length (enc y) = rows (y :: r) := by
  rw [rows_cons, rows_cons, List.set_append_right _ _ (by rw [rows_len]; exact Nat.le_refl _), rows_len, Nat.sub_self]; rfl

structure OInv (gb : Nat) (B : List S70) (w wr : World) (v3 v4 v5 : Value) (s : List Bool) (st : List (Nat × Nat)) (fin : List Nat) : Prop where
  len : s.length = B.length
  I : DInv (E B) B.length (sn s) st fin
  rs : Kd.R Kd.bool 4 wr w.heap.size (fun _ => True) v3 s
  ro : Kd.R (Kd.int .i64) 3 wr w.heap.size (fun _ => True) v4 (ints fin)
  rk : Kd.R k96 96 wr w.heap.size (fun _ => True) v5 (rows st)
  mb : MemB w gb B
  hb : Below w.heap.size w wr

/-- How much is left to do. -/
def todo (E : Nat → List Nat) (seen : Nat → Bool) : Nat → Nat
  | 0 => 0
  | n + 1 => todo E seen n + if seen n then 0 else (E n).length + 1
def todoS (E : Nat → List Nat) : List (Nat × Nat) → Nat
  | [] => 0
  | x :: r => todoS E r + ((E x.1).length - x.2 + 1)
theorem todo_set (E : Nat → List Nat) (seen : Nat → Bool) (x : Nat) (hx : seen x = false) : ∀ n, x < n → todo E (fun v => if v = x then true else seen v) n + (E x).length + 1 = todo E seen n := by
  have low : ∀ n, n ≤ x → todo E (fun v => if v = x then true else seen v) n = todo E seen n := by
    intro n
    induction n with
    | zero => intro _; rfl
    | succ n ih =>
      intro h
      unfold todo
      rw [ih (by omega), if_neg (show ¬ n = x by omega)]
  intro n
  induction n with
  | zero => intro h; omega
  | succ n ih =>
    intro h
    unfold todo
    by_cases e : n = x
    · subst e
      rw [low n (Nat.le_refl _), hx]
      simp
      omega
    · have := ih (by omega)
      rw [if_neg e]
      omega
def left (B : List S70) (s : List Bool) (st : List (Nat × Nat)) : Nat := todo (E B) (sn s) B.length + todoS (E B) st

theorem OInv.few {gb : Nat} {B : List S70} {w wr : World} {v3 v4 v5 : Value} {s : List Bool} {st : List (Nat × Nat)} {fin : List Nat} (h : OInv gb B w wr v3 v4 v5 s st fin) : st.length + fin.length ≤ B.length := by
  have := nodup_le B.length _ h.I.nd (fun v hv => h.I.lt v ((h.I.sn v).2 (List.mem_append.1 hv)))
  simpa using this
theorem OInv.at_top {gb : Nat} {B : List S70} {w wr : World} {v3 v4 v5 : Value} {s : List Bool} {t k : Nat} {r : List (Nat × Nat)} {fin : List Nat} (h : OInv gb B w wr v3 v4 v5 s ((t, k) :: r) fin) :
    t < B.length ∧ k ≤ (eds B t).length := by
  refine ⟨h.I.lt t ((h.I.sn t).2 (.inl (by simp))), ?_⟩
  have := (h.I.se (t, k) (by simp)).1
  rwa [E_len] at this
theorem sn_at (s : List Bool) (v : Nat) : rdOf false s (v : Int) = sn s v := by
  unfold rdOf sn; rw [Int.toNat_natCast]
theorem OInv.keep {gb : Nat} {B : List S70} {w wr w1 : World} {v3 v4 v5 : Value} {s : List Bool} {st : List (Nat × Nat)} {fin : List Nat} (h : OInv gb B w wr v3 v4 v5 s st fin) (hb : Below wr.heap.size wr w1) : OInv gb B w w1 v3 v4 v5 s st fin :=
  ⟨h.len, h.I, Kd.R_below h.rs hb, Kd.R_below h.ro hb, Kd.R_below h.rk hb, h.mb, below_step h.hb hb h.hb.size⟩
theorem sn_start (n : Nat) (h0 : 0 < n) : sn ((List.replicate n false).set 0 true) = fun v => v == 0 := by
  rw [sn_set _ _ (by simpa using h0)]
  funext v
  by_cases e : v = 0
  · subst e; simp
  · rw [if_neg e]
    have e2 : (v == 0) = false := by simpa using e
    rw [e2]
    unfold sn
    by_cases h : v < n
    · simp [List.getD_eq_getElem?_getD, h]
    · simp [List.getD_eq_getElem?_getD, h]

theorem top_cells {W : World} {b : Nat} {ok : Nat → Prop} {g5 m c5 t k : Nat} {r : List (Nat × Nat)} (h : Kd.R k96 96 W b ok (.slice (some ⟨g5, 0, none⟩) (m + 1) c5) (rows ((t, k) :: r))) (hm : m = r.length) :
    W.cell? ⟨g5, m * 2, none⟩ = some (.int .i64 (t : Int)) ∧ W.cell? ⟨g5, m * 2 + 1, none⟩ = some (.int .i64 (k : Int)) := by
  obtain ⟨ad, ead, x0, x1⟩ := at_T96 (Kd.R_reads' h).2.2 (m : Int) (by omega) (by rw [rows_len, List.length_cons]; omega)
  rw [hm] at x0 x1
  rw [rows_top] at x0 x1
  rw [← hm] at x0 x1
  cases ead
  simp only [add_plain, Int.toNat_natCast] at x0 x1
  exact ⟨x0, x1⟩
theorem top_free {W : World} {b : Nat} {ok : Nat → Prop} {g5 m c5 t k : Nat} {r : List (Nat × Nat)} (h : Kd.R k96 96 W b ok (.slice (some ⟨g5, 0, none⟩) (m + 1) c5) (rows ((t, k) :: r))) (hm : m = r.length) :
    W.frozen? ⟨g5, m * 2 + 1, none⟩ = false := by
  obtain ⟨_, _, _, _, hf⟩ := Kd.R_elem h z96 (m : Int) (by omega) (by omega)
  have := hf 1
  rw [Int.toNat_natCast] at this
  exact this
theorem top_next {W : World} {b : Nat} {ok : Nat → Prop} {g5 m c5 t k : Nat} {r : List (Nat × Nat)} (h : Kd.R k96 96 W b ok (.slice (some ⟨g5, 0, none⟩) (m + 1) c5) (rows ((t, k) :: r))) (hm : m = r.length) :
    Kd.R k96 96 (W.setCell ⟨g5, m * 2 + 1, none⟩ (.int .i64 ((k + 1 : Nat) : Int))) b ok (.slice (some ⟨g5, 0, none⟩) (m + 1) c5) (rows ((t, k + 1) :: r)) ∧ W.grownBy (W.setCell ⟨g5, m * 2 + 1, none⟩ (.int .i64 ((k + 1 : Nat) : Int))) (some g5) := by
  obtain ⟨c, hcl, hM, hcc, _⟩ := Kd.R_elem h z96 (m : Int) (by omega) (by omega)
  have hx : (rows ((t, k) :: r)).getD (m : Int).toNat z96 = enc (t, k) := by have := rows_top (t, k) r; unfold rd_T96 at this; rw [hm]; exact this
  rw [hx] at hM
  obtain rfl := k96_openM hM
  have := Kd.R_seg h (m : Int) (by omega) (by omega) (seg := [.int .i64 ((k + 1 : Nat) : Int)]) (j := 1) hcl hcc (show 2 ≤ 2 from Nat.le_refl _) (x' := enc (t, k + 1)) (k96_mkM _ _ _ (enc (t, k + 1))) (okp := fun k => ok k ∧ k ≠ g5) (fun _ hk => hk)
  rw [Int.toNat_natCast, hm, rows_set, ← hm] at this
  exact this
section
variable {gb : Nat} {B : List S70} {w W w1 : World} {v3 v4 v5 v1 : Value} {s : List Bool} {t k : Nat} {r : List (Nat × Nat)} {fin : List Nat} {g5 m c5 : Nat}
theorem OInv.popped (h : OInv gb B w W v3 v4 (.slice (some ⟨g5, 0, none⟩) (m + 1) c5) s ((t, k) :: r) fin) (hm : m = r.length) (hk : k = (eds B t).length)
    (ho : Kd.R (Kd.int .i64) 3 w1 w.heap.size (fun _ => True) v1 (ints fin ++ [(t : Int)])) (hb : Below w.heap.size w w1) (hg : W.grownBy w1 v4.ownBlock) :
    OInv gb B w w1 v3 v1 (.slice (some ⟨g5, 0, none⟩) m c5) s r (fin ++ [t]) ∧ w1.cell? ⟨g5, m * 2, none⟩ = some (.int .i64 (t : Int)) := by
  have hk5 := Kd.R_over' h.rk (Kd.R_typed h.ro) (by decide) hg
  refine ⟨⟨h.len, h.I.pop (by rw [E_len]; exact hk), Kd.R_over' h.rs (Kd.R_typed h.ro) (by decide) hg, ?_, ?_, h.mb, hb⟩, (top_cells hk5 hm).1⟩
  · have e : ints (fin ++ [t]) = ints fin ++ [(t : Int)] := by unfold ints; rw [List.map_append]; rfl
    rw [e]; exact ho
  · have := Kd.R_take hk5 (m := m) (by rw [rows_len, List.length_cons]; omega)
    rw [hm, rows_take, ← hm] at this
    exact this
/-- The top has gone on. -/
theorem OInv.stepped (h : OInv gb B w W v3 v4 (.slice (some ⟨g5, 0, none⟩) (m + 1) c5) s ((t, k) :: r) fin) (hm : m = r.length) {W' : World} (hW : W.setCell ⟨g5, m * 2 + 1, none⟩ (.int .i64 ((k : Int) + 1)) = W') :
    Kd.R Kd.bool 4 W' w.heap.size (fun _ => True) v3 s ∧ Kd.R (Kd.int .i64) 3 W' w.heap.size (fun _ => True) v4 (ints fin) ∧ Kd.R k96 96 W' w.heap.size (fun _ => True) (.slice (some ⟨g5, 0, none⟩) (m + 1) c5) (rows ((t, k + 1) :: r)) ∧ Below w.heap.size w W' := by
  subst hW
  obtain ⟨h1, h2⟩ := top_next h.rk hm
  rw [show ((k + 1 : Nat) : Int) = (k : Int) + 1 from rfl] at h1 h2
  exact ⟨Kd.R_over' h.rs (Kd.R_typed h.rk) (by decide) h2, Kd.R_over' h.ro (Kd.R_typed h.rk) (by decide) h2, h1, below_set h.hb (Kd.R_base h.rk g5 rfl)⟩
/-- .. and a new block has been seen. -/
theorem seen_set {st : List (Nat × Nat)} {g3 c3 n y : Nat} (h1 : Kd.R Kd.bool 4 W w.heap.size (fun _ => True) (.slice (some ⟨g3, 0, none⟩) n c3) s) (h2 : Kd.R (Kd.int .i64) 3 W w.heap.size (fun _ => True) v4 (ints fin)) (h3 : Kd.R k96 96 W w.heap.size (fun _ => True) v5 (rows st)) (h4 : Below w.heap.size w W) {W' : World} (hW : W.setCell ⟨g3, y, none⟩ (.bool true) = W') :
    Kd.R Kd.bool 4 W' w.heap.size (fun _ => True) (.slice (some ⟨g3, 0, none⟩) n c3) (s.set y true) ∧ Kd.R (Kd.int .i64) 3 W' w.heap.size (fun _ => True) v4 (ints fin) ∧ Kd.R k96 96 W' w.heap.size (fun _ => True) v5 (rows st) ∧ Below w.heap.size w W' := by
  subst hW
  have hp := Kd.R_putg h1 (y : Int) true
  rw [Int.toNat_natCast] at hp
  exact ⟨hp.1, Kd.R_over' h2 (Kd.R_typed h1) (by decide) hp.2, Kd.R_over' h3 (Kd.R_typed h1) (by decide) hp.2, below_set h4 (Kd.R_base h1 g3 rfl)⟩
theorem left_pop (B : List S70) (s : List Bool) (t k : Nat) (r : List (Nat × Nat)) : left B s r < left B s ((t, k) :: r) := by
  have e : todoS (E B) ((t, k) :: r) = todoS (E B) r + ((E B t).length - k + 1) := rfl
  unfold left; omega
theorem left_skip (B : List S70) (s : List Bool) (t k : Nat) (r : List (Nat × Nat)) (hk : k < (eds B t).length) : left B s ((t, k + 1) :: r) < left B s ((t, k) :: r) := by
  have e : todoS (E B) ((t, k) :: r) = todoS (E B) r + ((E B t).length - k + 1) := rfl
  have e2 : todoS (E B) ((t, k + 1) :: r) = todoS (E B) r + ((E B t).length - (k + 1) + 1) := rfl
  rw [E_len] at e e2
  unfold left; omega
theorem left_push (B : List S70) (s : List Bool) (t k y : Nat) (r : List (Nat × Nat)) (hk : k < (eds B t).length) (hs : sn s y = false) (hy : y < B.length) (hl : s.length = B.length) : left B (s.set y true) ((y, 0) :: (t, k + 1) :: r) < left B s ((t, k) :: r) := by
  have e : todoS (E B) ((t, k) :: r) = todoS (E B) r + ((E B t).length - k + 1) := rfl
  have e2 : todoS (E B) ((y, 0) :: (t, k + 1) :: r) = todoS (E B) r + ((E B t).length - (k + 1) + 1) + ((E B y).length - 0 + 1) := rfl
  have h := todo_set (E B) (sn s) y hs B.length hy
  rw [← sn_set s y (by omega)] at h
  rw [E_len] at e e2
  unfold left; omega
end

theorem edge_at {B : List S70} (hE : EdgesIn B) (t k : Nat) (hkl : k < (eds B t).length) : ∃ y : Nat, (rd_T72 (eds B t) (k : Int)).f0 = (y : Int) ∧ (E B t)[k]? = some y ∧ y < B.length := by
  have hin := hE.ok t _ (List.getElem_mem hkl)
  refine ⟨(eds B t)[k].f0.toNat, ?_, E_at B t k hkl, by omega⟩
  rw [rd72 _ _ hkl]
  exact (Int.toNat_of_nonneg hin.1).symm
