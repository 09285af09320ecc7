/- impl.pieceOf: what it answers, small lemmas. -/
import Derived.Test.YtkkodbbgdndhmaaDoorLexCFnExactLex
import Derived.Laws.ResultCell
import Derived.Lib.AppendIntMem
namespace Go.Proofs.YtkkodbbgdndhmaaDoor.LxFnExactLex
open Go.RowKit Go.Proofs.YtkkodbbgdndhmaaDoor.QFnExactLex Go.Proofs.YtkkodbbgdndhmaaDoorW.PrintWords Go.Proofs.YtkkodbbgdndhmaaDoorW.PrintLast Go.Proofs.YtkkodbbgdndhmaaDoor.LexA Go.Proofs.YtkkodbbgdndhmaaDoor.Fw
open Go.Proofs.YtkkodbbgdndhmaaDoor.LexBFnExactLex (decL dval intV)
set_option linter.unusedSimpArgs false
set_option linter.unusedVariables false

theorem results_row_tmp {P : Program} {fn : Func} {p u : Tmp} {ty : TypeId} (h : fn.results = #[.cell p ty, .tmp u]) (tmps : Array Value) (w : World) (g : Nat) (t : TypeId) (cs : Array Value) (fr : Nat × Nat) (d : TypeDesc)
    (hp : tmps.getD p undef = .pointer (some ⟨g, 0, none⟩)) (hg : w.heap[g]? = some (.cells cs t fr))
    (hu : P.underlying ty = some d) (hd : (match d with | .struct _ | .array _ _ => true | _ => false) = true) (hi : (P.info? ty).map (·.size) = some cs.size) :
    (results fn tmps).run P w = .ok (.tuple #[.agg cs, tmps.getD u undef]) w := by
  rw [results_cell_tmp h, hp]
  simp [asAddr, run_loadVar_row w g t ty cs fr d hg hu hd hi, Result.andThen]
theorem set4 {w : World} {g t : Nat} {a b c d : Value} (h : w.heap[g]? = some (.cells #[a, b, c, d] t (0, 0))) (a1 b1 c1 d1 : Value) : ((((w.setCell ⟨g, 0, none⟩ a1).setCell ⟨g, 1, none⟩ b1).setCell ⟨g, 2, none⟩ c1).setCell ⟨g, 3, none⟩ d1).heap[g]? = some (.cells #[a1, b1, c1, d1] t (0, 0)) := by
  simpa using blk_set (blk_set (blk_set (blk_set h 0 a1) 1 b1) 2 c1) 3 d1
theorem below4 {w0 w : World} {g : Nat} (hb : Below w0.heap.size w0 w) (hg : w0.heap.size ≤ g) (a1 b1 c1 d1 : Value) : Below w0.heap.size w0 ((((w.setCell ⟨g, 0, none⟩ a1).setCell ⟨g, 1, none⟩ b1).setCell ⟨g, 2, none⟩ c1).setCell ⟨g, 3, none⟩ d1) :=
  below_set (below_set (below_set (below_set hb hg) hg) hg) hg
theorem four {w : World} {k t : Nat} {a b c d : Value} (h : w.heap[k]? = some (.cells #[a, b, c, d] t (0, 0))) : w.cell? ⟨k, 0, none⟩ = some a ∧ w.cell? ⟨k, 1, none⟩ = some b ∧ w.cell? ⟨k, 2, none⟩ = some c ∧ w.cell? ⟨k, 3, none⟩ = some d :=
  ⟨(blk_cell h 0).trans rfl, (blk_cell h 1).trans rfl, (blk_cell h 2).trans rfl, (blk_cell h 3).trans rfl⟩
theorem far4 (w : World) (g : Nat) (a1 b1 c1 d1 : Value) (k : Nat) (hk : k ≠ g) : ((((w.setCell ⟨g, 0, none⟩ a1).setCell ⟨g, 1, none⟩ b1).setCell ⟨g, 2, none⟩ c1).setCell ⟨g, 3, none⟩ d1).heap[k]? = w.heap[k]? :=
  (Below.heap_setCell _ ⟨g, 3, none⟩ d1 k hk).trans ((Below.heap_setCell _ ⟨g, 2, none⟩ c1 k hk).trans ((Below.heap_setCell _ ⟨g, 1, none⟩ b1 k hk).trans (Below.heap_setCell _ ⟨g, 0, none⟩ a1 k hk)))

def Tok (t : S34) (v3 : Value) (ok : Value) : Value := .tuple #[.agg #[.int .i64 t.f0, .int .i64 t.f1, .int .i64 t.f2, v3], ok]
def Piece (l : List Int) (w : World) (e : Ending) (w' : World) : Prop := ∃ (t : S34) (v3 : Value) (ok : Bool), e = .returned (Tok t v3 (.bool ok)) ∧ Kd.R (Kd.int .u8) 5 w' w.heap.size (fun _ => True) v3 t.f3 ∧ Below w.heap.size w w' ∧ (ok = true → IsPiece l t) ∧ (ok = false → ∀ t', ¬ IsPiece l t')

theorem no_piece {l : List Int} (hw : ¬ Word l) (hi : ∀ m, ¬ IsInt l m) (hf : ∀ u, ¬ IsFlt l u) : ∀ t', ¬ IsPiece l t' := by
  rintro t' (⟨h, _⟩ | ⟨m, h, _⟩ | ⟨u, h, _⟩)
  · exact hw h
  · exact hi m h
  · exact hf u h
theorem int_bytes {l : List Int} {m : Int} (h : IsInt l m) : Lib.bytesOf l = Lib.itoa m := by rw [h.2.2, decL_eq, bytes_nums8]
theorem flt_bytes {l : List Int} {u : Nat} (h : IsFlt l u) : Lib.bytesOf l = flt u := by rw [h.2.1, bytes_nums8]
theorem prefix_rest {B : List UInt8} (h : Lib.hasPrefix B [48, 102] = true) : B = 48 :: 102 :: B.drop 2 := by
  unfold Lib.hasPrefix at h
  have := List.isPrefixOf_iff_prefix.1 h
  obtain ⟨r, rfl⟩ := this
  rfl
def PieceC : Prop := ∀ (A : Option Addr) (c : Nat) (l : List Int) (w : World), Kd.C (Kd.int .u8) w A l.length l → l.length ≤ c → l.length ≤ 1048576 → Byt l → LW w → Calls Tryd.prog 25 #[.slice A l.length c] w (Piece l w)

end Go.Proofs.YtkkodbbgdndhmaaDoor.LxFnExactLex
