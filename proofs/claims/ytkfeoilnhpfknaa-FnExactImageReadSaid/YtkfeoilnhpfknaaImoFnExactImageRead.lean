/- The contract of spec.l11two over own rows of bytes, and lists for spec.l11bytes. -/
import Derived.Test.YtkfeoilnhpfknaaImnFnExactImageRead
namespace Go.Proofs.Ytkfeoilnhpfknaa.ImFnExactImageRead
open Go.RowKit Go.Proofs.Ytkfeoilnhpfknaa.QFnExactImageRead Go.Proofs.YtkfeoilnhpfknaaW.PrintWords Go.Proofs.YtkfeoilnhpfknaaW.PrintLast

def twoB (n : Int) : List Int := [(Int.tmod n 256) % 256, (wrap64 (Int.tdiv n 256)) % 256]
theorem twoB_len (n : Int) : (twoB n).length = 2 := rfl
/-- Blocks of another kind stay as they were. -/
def KeepT (w w' : World) : Prop := ∀ (k t : Nat) (cs : Array Value), 5 ≠ t → w.heap[k]? = some (.cells cs t (0, 0)) → w'.heap[k]? = some (.cells cs t (0, 0))
def GrowsT (w0 w : World) (ys : List Int) (e : Ending) (w' : World) : Prop := ∃ v1, e = .returned v1 ∧ OwnB w' w0.heap.size v1 ys ∧ Below w0.heap.size w0 w' ∧ KeepT w w'
theorem Frame.keepT {w w' : World} {base : Nat} {v : Value} {xs : List Int} (h : Frame w w' v) (hO : OwnB w base v xs) : KeepT w w' := fun _ _ _ ht hb => h.blk hO hb ht
theorem KeepT.trans {w w1 w2 : World} (h : KeepT w w1) (h2 : KeepT w1 w2) : KeepT w w2 := fun k t cs ht hb => h2 k t cs ht (h k t cs ht hb)
theorem KeepT.of_below {w w1 : World} (hb : Below w.heap.size w w1) : KeepT w w1 := fun _ _ _ _ h => blk_below h hb

set_option maxHeartbeats 4000000 in
set_option maxRecDepth 100000 in
theorem two_c (w0 : World) (v : Value) (xs : List Int) (n : Int) (w : World) (hB : Below w0.heap.size w0 w) (hO : OwnB w w0.heap.size v xs) (hl : xs.length ≤ 549755813888) :
    Calls Try.prog 49 #[v, .int .i64 n] w (GrowsT w0 w (xs ++ twoB n)) := by
  have HB := Lib.hid hB
  have HO := Lib.hid hO
  clear hB hO
  obtain ⟨q, hq⟩ : ∃ q, q = (Int.tmod n 256) % 256 := ⟨_, rfl⟩
  obtain ⟨s, hs⟩ : ∃ s, s = (wrap64 (Int.tdiv n 256)) % 256 := ⟨_, rfl⟩
  obtain ⟨y1, hy1⟩ : ∃ y1 : List Int, y1 = [(Int.tmod n 256) % 256, (wrap64 (Int.tdiv n 256)) % 256] := ⟨_, rfl⟩
  have Ny := Lib.hid hy1
  clear hy1 hq hs
  go_enter Try.func49, Try.ntmps49
  go_wp2_with (first
    | ((with_reducible refine gate_dst (N := 12) rfl ?_); refine Kd.R_lit (Kd.int .u8) _ 5 ?hg (N := 12) ?hd (xs := [(Int.tmod n 256) % 256, (wrap64 (Int.tdiv n 256)) % 256]) (inner := [.int .u8 ((Int.tmod n 256) % 256), .int .u8 ((wrap64 (Int.tdiv n 256)) % 256)]) (ok := fun _ => True) (okp := fun _ => True) ?hr ?hp (fun _ hk => hk) trivial (Below.refl _ _) (Nat.le_refl _) (by simp) ?_; (case hd => rfl); (case hg => rfl); (case hr => first | (go_simp; done) | (go_simp; rfl)); (case hp => exact (Reps.one (show Kd.M (Kd.int .u8) _ _ _ ((Int.tmod n 256) % 256) [.int .u8 ((Int.tmod n 256) % 256)] from rfl) (Reps.one (show Kd.M (Kd.int .u8) _ _ _ ((wrap64 (Int.tdiv n 256)) % 256) [.int .u8 ((wrap64 (Int.tdiv n 256)) % 256)] from rfl) (Reps.none _ _)))); intro vL w10 hoL hb hg_ hnew_; clear hg_ hnew_; rw [← Ny.out] at hoL; have HOL := Lib.hid hoL; have HO2 := Lib.hid (HO.out.below hb); have HB2 := Lib.hid (below_step HB.out hb); have HK2 := Lib.hid (KeepT.of_below hb); clear hb hoL HB; obtain ⟨Ao7, co7, eo7⟩ := Kd.R_slice HOL.out; subst eo7)
    | ((with_reducible refine gate_builtin (b := .append) (xs := #[.tmp 5, .tmp 12]) rfl ?_); at_builtin; refine append_b (w0 := w0) (by rfl) (.tmp 5) (.tmp 12) (by rfl) _ xs y1 _ _ _ (by rfl) (by rfl) HO2.out (Kd.R_reads' HOL.out).2.2 (by rw [Ny.out]; exact Nat.succ_pos _) HB2.out (by rw [Ny.out]; simp only [List.length_cons, List.length_nil]; omega) ?_; intro v11 w11 ho hb hg hat; rw [Ny.out] at ho; have HO3 := Lib.hid ho; have HB3 := Lib.hid hb; have HF3 := Lib.hid (show Frame _ _ v from ⟨hg.size, fun k hk hv => hg.block k hk hv⟩); clear ho hb hg hat))
  go_ret
  exact ⟨_, rfl, .inl HO3.out, HB3.out, HK2.out.trans (HF3.out.keepT HO2.out)⟩

theorem fresh_alloc (w0 W : World) (hb : w0.heap.size ≤ W.heap.size) : OwnB (W.alloc (.cells #[.int .u8 71, .int .u8 73] 5 (2, 3))) w0.heap.size (.slice (some ⟨W.heap.size, 0, none⟩) 2 2) [71, 73] :=
  .inr ⟨rfl, W.heap.size, rfl, hb, by decide, by simpa using heap_alloc_new W _⟩
theorem two_first (w0 : World) (n : Int) (W : World) (hB : Below w0.heap.size w0 W) :
    Calls Try.prog 49 #[.slice (some ⟨W.heap.size, 0, none⟩) 2 2, .int .i64 n] (W.alloc (.cells #[.int .u8 71, .int .u8 73] 5 (2, 3))) (GrowsT w0 W ([71, 73] ++ twoB n)) := by
  have hba : Below W.heap.size W (W.alloc (.cells #[.int .u8 71, .int .u8 73] 5 (2, 3))) := below_alloc (Below.refl _ _) _
  refine (two_c w0 _ [71, 73] n _ (below_step hB hba) (fresh_alloc w0 W hB.size) (by decide)).mono ?_
  rintro e w' ⟨v1, h1, h2, h3, h4⟩
  exact ⟨v1, h1, h2, h3, (KeepT.of_below hba).trans h4⟩

theorem l1bool_c (b : Bool) (w : World) : Calls Try.prog 50 #[.bool b] w fun e w' => e = .returned (.int .i64 (boolI b)) ∧ w = w' := by
  cases b
  · go_enter Try.func50, Try.ntmps50
    go_wp2
    go_ret
    exact ⟨rfl, rfl⟩
  · go_enter Try.func50, Try.ntmps50
    go_wp2
    go_ret
    exact ⟨rfl, rfl⟩

/-- An append of a list just made, in a plain region. -/
theorem app_list {ops : Array Oper} {rest : List Oper} {o : Oper} {a : Act} {Q : Exit → Act → World → Prop} (hgd : o.guard = none) (s x : Operand)
    (ho : o.op = .call { callee := .builtin .append, args := #[s, x], argTypes := #[34, 34] }) (w0 W : World) (v : Value) (xs ys : List Int) (fr : Nat × Nat)
    (hs : a.eval s = v) (hx : a.eval x = .slice (some ⟨W.heap.size, 0, none⟩) ys.length ys.length) (hy : 0 < ys.length)
    (hO : OwnB W w0.heap.size v xs) (hB : Below w0.heap.size w0 W) (hl : xs.length + ys.length ≤ 68719476736)
    (h : ∀ v1 w1, OwnB w1 w0.heap.size v1 (xs ++ ys) → Below w0.heap.size w0 w1 → KeepT W w1 → wpList Try.prog ops Q rest (a.put o.dst v1) w1) :
    wpList Try.prog ops Q (o :: rest) a (W.alloc (.cells (ys.map (Value.int .u8)).toArray 5 fr)) := by
  have hba : Below W.heap.size W (W.alloc (.cells (ys.map (Value.int .u8)).toArray 5 fr)) := below_alloc (Below.refl _ _) _
  have hO2 := hO.below hba
  refine append_b (w0 := w0) hgd s x ho v xs ys (some ⟨W.heap.size, 0, none⟩) ys.length ys.length hs hx hO2 (lit_B W ys fr (by omega)) hy (below_step hB hba) (by omega) ?_
  intro v1 w1 h1 hb hg _
  refine h v1 w1 (.inl h1) hb ((KeepT.of_below hba).trans (Frame.keepT (v := v) ⟨hg.size, fun k hk hv => hg.block k hk hv⟩ hO2))

/-- The bytes as the specification lists them. -/
def twosB : List Int → List Int
  | [] => []
  | n :: l => twoB n ++ twosB l
def byteU (n : Int) (j : Nat) : Int := (IntKind.u64.wrap n / 2 ^ (8 * j)) % 256
def bytesU (n : Int) : Nat → List Int
  | 0 => []
  | j + 1 => bytesU n j ++ [byteU n j]
def structS (s : List Bool) : List Int := twoB s.length ++ s.map boolI
def insS (x : S68) : List Int := [x.f0 % 256, x.f1 % 256, x.f2 % 256, x.f3 % 256] ++ bytesU x.f4 8
def mapS (p : S72) : List Int := twosB [p.f0, (p.f1.length : Int)] ++ twosB p.f1
def codeS (c : S53) : List Int := twosB [c.f0, c.f1, (c.f2.length : Int), (c.f3.length : Int)] ++ c.f2.flatMap insS ++ c.f3.flatMap mapS
def headS (l0 : List (List Bool)) (l1 : List S53) (a2 : Int) : List Int := [71, 73] ++ twosB [(l0.length : Int), (l1.length : Int), a2]
def imgS (l0 : List (List Bool)) (l1 : List S53) (a2 : Int) : List Int := headS l0 l1 a2 ++ l0.flatMap structS ++ l1.flatMap codeS
theorem three {w : World} {k t : Nat} {a b c : Value} (h : w.heap[k]? = some (.cells #[a, b, c] t (0, 0))) : w.cell? ⟨k, 0, none⟩ = some a ∧ w.cell? ⟨k, 1, none⟩ = some b ∧ w.cell? ⟨k, 2, none⟩ = some c :=
  ⟨(blk_cell h 0).trans rfl, (blk_cell h 1).trans rfl, (blk_cell h 2).trans rfl⟩
theorem four {w : World} {k t : Nat} {a b c d : Value} (h : w.heap[k]? = some (.cells #[a, b, c, d] t (0, 0))) : w.cell? ⟨k, 0, none⟩ = some a ∧ w.cell? ⟨k, 1, none⟩ = some b ∧ w.cell? ⟨k, 2, none⟩ = some c ∧ w.cell? ⟨k, 3, none⟩ = some d :=
  ⟨(blk_cell h 0).trans rfl, (blk_cell h 1).trans rfl, (blk_cell h 2).trans rfl, (blk_cell h 3).trans rfl⟩
theorem twosB_snoc (l : List Int) (n : Int) : twosB (l ++ [n]) = twosB l ++ twoB n := by
  induction l with
  | nil => show twoB n ++ [] = [] ++ twoB n; rw [List.append_nil, List.nil_append]
  | cons m l ih => show twoB m ++ twosB (l ++ [n]) = (twoB m ++ twosB l) ++ twoB n; rw [ih, List.append_assoc]
theorem twosB_len (l : List Int) : (twosB l).length = 2 * l.length := by
  induction l with
  | nil => rfl
  | cons m l ih => show (twoB m ++ twosB l).length = _; rw [List.length_append, List.length_cons, ih]; simp only [twoB, List.length_cons, List.length_nil]; omega
theorem bytesU_len (n : Int) (j : Nat) : (bytesU n j).length = j := by
  induction j with
  | zero => rfl
  | succ j ih => unfold bytesU; rw [List.length_append, ih]; rfl

/-- The lengths are the same on both sides, whatever the numbers. -/
theorem flat_len {α : Type} (l : List α) (f g : α → List Int) (h : ∀ x, (f x).length = (g x).length) : (l.flatMap f).length = (l.flatMap g).length := by
  induction l with
  | nil => rfl
  | cons x l ih => simp only [List.flatMap_cons, List.length_append, ih, h]
theorem structS_len (s : List Bool) : (structS s).length = (structB s).length := by simp only [structS, structB, List.length_append, putB_len, twoB, List.length_cons, List.length_nil]
theorem insS_len (x : S68) : (insS x).length = (insB x).length := by simp only [insS, insB, List.length_append, bytesU_len, lowB_len]
theorem mapS_len (p : S72) : (mapS p).length = (mapB p).length := by simp only [mapS, mapB, List.length_append, twosB_len, putB_len]
theorem codeS_len (c : S53) : (codeS c).length = (codeB c).length := by
  simp only [codeS, codeB, List.length_append, twosB_len, putB_len, flat_len c.f2 insS insB insS_len, flat_len c.f3 mapS mapB mapS_len, List.length_cons, List.length_nil]
theorem imgS_len (l0 : List (List Bool)) (l1 : List S53) (a2 : Int) : (imgS l0 l1 a2).length = (imgB l0 l1 a2).length := by
  simp only [imgS, imgB, headS, headB, List.length_append, twosB_len, putB_len, flat_len l0 structS structB structS_len, flat_len l1 codeS codeB codeS_len, List.length_cons, List.length_nil]

end Go.Proofs.Ytkfeoilnhpfknaa.ImFnExactImageRead
