/- Plain law: every text gives tokens, and one list alone; what is carried through the law. -/
import Derived.Test.YtkkodbbgdndhmaaDoorLxlFnExactLex
import Derived.Test.YtkkodbbgdndhmaaDoorMkXFnExactLex
namespace Go.Proofs.YtkkodbbgdndhmaaDoor.LxFnExactLex
open Go.RowKit Go.Proofs.YtkkodbbgdndhmaaDoor.QFnExactLex Go.Proofs.YtkkodbbgdndhmaaDoorW.PrintWords Go.Proofs.YtkkodbbgdndhmaaDoorW.PrintLast Go.Proofs.YtkkodbbgdndhmaaDoor.Aid
open Go.Proofs.YtkkodbbgdndhmaaDoor.ByteQFnExactLex (eq_tells to_tells upB)
open Go.Proofs.YtkkodbbgdndhmaaDoor.MkpFnExactLex (cnt mT cT heldT_tells rd34 mk)
set_option linter.unusedVariables false

theorem run_total (l : List Int) : ∃ n, IsRun l n := by
  have key : ∀ (d i : Nat), lead l ≤ i → i ≤ l.length → (∀ j, lead l ≤ j → j < i → innerB (l.getD j 0) = true) → l.length - i = d → ∃ n, IsRun l n := by
    intro d
    induction d with
    | zero => exact fun i h0 h1 h2 h3 => ⟨i, h0, h1, h2, fun h => by omega⟩
    | succ d ih =>
      intro i h0 h1 h2 h3
      cases h : innerB (l.getD i 0) with
      | false => exact ⟨i, h0, h1, h2, fun _ => h⟩
      | true => exact ih (i + 1) (by omega) (by omega) (fun j a b => by
          by_cases hj : j = i
          · rw [hj]; exact h
          · exact h2 j a (by omega)) (by omega)
  have hl : lead l ≤ l.length := by
    unfold lead
    split
    · rename_i h; have := h.2.1; omega
    · exact Nat.zero_le _
  exact key _ (lead l) (Nat.le_refl _) hl (fun j a b => by omega) rfl
theorem next_total (l : List Int) : (∃ t n, Next l t n) ∨ NoNext l := by
  obtain ⟨r, hr⟩ := run_total l
  by_cases h0 : 0 < r
  · by_cases h : ∃ t, IsPiece (l.take r) t
    · obtain ⟨t, ht⟩ := h
      exact .inl ⟨t, r, .inl ⟨r, hr, h0, rfl, ht⟩⟩
    · exact .inr (.inl ⟨r, hr, h0, fun t ht => h ⟨t, ht⟩⟩)
  · obtain rfl : r = 0 := by omega
    by_cases hd : Dbl l
    · exact .inl ⟨_, _, .inr (.inl ⟨hr, hd, rfl, rfl⟩)⟩
    · by_cases hs : l.getD 0 0 ∈ signs
      · exact .inl ⟨_, _, .inr (.inr ⟨hr, hd, hs, rfl, rfl⟩)⟩
      · exact .inr (.inr ⟨hr, hd, hs⟩)
theorem lexed_total (l : List Int) : ∀ (d i : Nat) (out : List S34), l.length - i ≤ d → ∃ r c, Lexed l i out r c := by
  intro d
  induction d with
  | zero => exact fun i out h => ⟨_, _, .done i out (by omega)⟩
  | succ d ih =>
    intro i out h
    by_cases hi : i < l.length
    · cases hb : blankB (l.getD i 0) with
      | true =>
        obtain ⟨r, c, hr⟩ := ih (i + 1) out (by omega)
        exact ⟨r, c, .blank i out r c hi hb hr⟩
      | false =>
        rcases next_total (l.drop i) with ⟨t, n, hn⟩ | hn
        · have := hn.pos
          obtain ⟨r, c, hr⟩ := ih (i + n) (out ++ [⟨t.f0, i, t.f2, t.f3⟩]) (by omega)
          exact ⟨r, c, .tok i n t out r c hi hb hn hr⟩
        · exact ⟨_, _, .bad i out hi hb hn⟩
    · exact ⟨_, _, .done i out (by omega)⟩
theorem lexof_total (l : List Int) : ∃ r c, LexOf l r c := by
  by_cases h : l.length ≤ 6000
  · obtain ⟨r, c, hr⟩ := lexed_total l l.length 0 [] (by omega)
    exact ⟨r, c, .inr ⟨h, hr⟩⟩
  · exact ⟨[], 0, .inl ⟨by omega, rfl, rfl⟩⟩
theorem LexOf.one {l : List Int} (hb : Byt l) {r r' : List S34} {c c' : Int} (h : LexOf l r c) (h' : LexOf l r' c') : r' = r ∧ c' = c := by
  obtain ⟨_, rfl, K, hK⟩ := lex_tells hb h
  obtain ⟨_, rfl, K', hK'⟩ := lex_tells hb h'
  have a := hK (max K K') (by omega)
  rw [hK' (max K K') (by omega)] at a
  injection a with a
  injection a with a b
  exact ⟨a, b⟩

/-! the printed calls -/
theorem eqT_loop (x : List S34) (hx : x.length ≤ 6000) (hs : ∀ t ∈ x, t.f3.length ≤ 6000) (d : Nat) : ∀ i : Nat, i ≤ x.length → x.length - i = d → Tells (fun k => laws_eqTokenS.l0 k x x (i : Int)) (fun r => r = true) := by
  induction d with
  | zero => exact fun i hi hd => Tells.step (fun k => by rw [laws_eqTokenS.l0]) (Tells.neg (by omega) (Tells.now rfl))
  | succ d ih =>
    intro i hi hd
    have hlt : i < x.length := by omega
    refine Tells.step (fun k => by rw [laws_eqTokenS.l0]) (Tells.pos (by omega) (Tells.pos (by omega) (Tells.pos (by omega) ?_)))
    rw [rd34 x i hlt]
    have ht := hs x[i] (List.getElem_mem hlt)
    have he : Tells (fun k => laws_eqToken.f k x[i].f0 x[i].f1 x[i].f2 x[i].f3 x[i].f0 x[i].f1 x[i].f2 x[i].f3) (fun r => r = true) := by
      unfold laws_eqToken.f
      exact Tells.pos rfl (Tells.pos rfl (Tells.pos rfl (Tells.bind (eq_tells x[i].f3 (by omega)) fun t ht => Tells.pos ht (Tells.now rfl))))
    refine Tells.bind he fun t ht => Tells.pos ht ?_
    rw [wrap64_id (by omega) (by omega), show (i : Int) + 1 = ((i + 1 : Nat) : Int) from by omega]
    exact ih (i + 1) (by omega) (by omega)
theorem eqT_tells (x : List S34) (hx : x.length ≤ 6000) (hs : ∀ t ∈ x, t.f3.length ≤ 6000) : Tells (fun k => laws_eqTokenS.f k x x) (fun r => r = true) := by
  unfold laws_eqTokenS.f
  exact Tells.pos rfl (eqT_loop x hx hs x.length 0 (by omega) rfl)
theorem toB_c (A : Option Addr) (c : Nat) (bs : List Int) (w : World) (hl : bs.length ≤ 1048576) (hC : Kd.C (Kd.int .u8) w A bs.length bs) (hc : bs.length ≤ c) :
    Calls Tryd.prog 5 #[.slice A bs.length c] w (fun e w' => ∃ V m, e = .returned (.slice V bs.length m) ∧ bs.length ≤ m ∧ Kd.R (Kd.int .u8) 5 w' w.heap.size (fun _ => True) (.slice V bs.length m) bs ∧ Below w.heap.size w w') := by
  obtain ⟨r, rfl, K, hK⟩ := to_tells bs hl
  refine (laws_toByteS.calls K A c _ _ w hC hc (hK K (Nat.le_refl _))).mono ?_
  rintro e w' ⟨v, rfl, hR, hb⟩
  obtain ⟨V, m, rfl⟩ := Kd.R_slice hR
  exact ⟨V, m, rfl, (Kd.R_reads' hR).2.1, hR, hb⟩
theorem spec_c (A : Option Addr) (c : Nat) (bs : List Int) (w : World) (hC : Kd.C (Kd.int .u8) w A bs.length bs) (hc : bs.length ≤ c) (hb : Byt bs) {r : List S34} {q : Int} (h : LexOf bs r q) :
    Calls Tryd.prog 4 #[.slice A bs.length c] w (fun e w' => ∃ V m, e = .returned (.tuple #[.slice V r.length m, .int .i64 q]) ∧ Kd.R k34 34 w' w.heap.size (fun _ => True) (.slice V r.length m) r ∧ Below w.heap.size w w') := by
  obtain ⟨_, rfl, K, hK⟩ := lex_tells hb h
  refine (spec_Lex.calls K A c bs r q w hC hc (hK K (Nat.le_refl _))).mono ?_
  rintro e w' ⟨v, rfl, hS, hb⟩
  obtain ⟨V, m, rfl⟩ := Kd.S_slice hS
  exact ⟨V, m, rfl, Kd.S_R hS, hb⟩
theorem eqB_c (V : Option Addr) (m : Nat) (V' : Option Addr) (m' : Nat) (r : List Int) (w : World) (hr : r.length ≤ 1099511627776) (h : Kd.C (Kd.int .u8) w V r.length r) (hm : r.length ≤ m) (h' : Kd.C (Kd.int .u8) w V' r.length r) (hm' : r.length ≤ m') :
    Calls Tryd.prog 8 #[.slice V r.length m, .slice V' r.length m'] w (fun e w' => e = .returned (.bool true) ∧ Below w.heap.size w w') := by
  obtain ⟨t, rfl, K, hK⟩ := eq_tells r hr
  refine (laws_eqByteS.calls K V m r V' m' r true w h hm h' hm' (hK K (Nat.le_refl _))).mono ?_
  rintro e w' ⟨rfl, hd⟩
  exact ⟨rfl, hd.below⟩

/-! what is carried -/
/-- The reference's tokens, in blocks below s1. -/
def St (W : World) (s1 : Nat) (A : Option Addr) (q : Nat) (r : List S34) (cur : World) : Prop :=
  Below W.heap.size W cur ∧ W.heap.size ≤ s1 ∧ s1 ≤ cur.heap.size ∧ Kd.R k34 34 cur W.heap.size (fun k => k < s1) (.slice A r.length q) r
theorem St.below {W : World} {s1 : Nat} {A : Option Addr} {q : Nat} {r : List S34} {cur cur' : World} (h : St W s1 A q r cur) (hb : Below cur.heap.size cur cur') : St W s1 A q r cur' :=
  ⟨below_step h.1 hb, h.2.1, Nat.le_trans h.2.2.1 hb.size, Kd.R_below h.2.2.2 hb⟩
theorem St.kept {W : World} {s1 s : Nat} {A : Option Addr} {q : Nat} {r : List S34} {cur cur' : World} (h : St W s1 A q r cur) (hb : Below s cur cur') (hs : s1 ≤ s) : St W s1 A q r cur' := by
  obtain ⟨h1, h2, h3, h4⟩ := h
  exact ⟨⟨hb.os.trans h1.os, hb.tape.trans h1.tape, hb.output.trans h1.output, Nat.le_trans h1.size hb.size, fun k hk => (hb.block k (by omega)).trans (h1.block k hk)⟩, h2, Nat.le_trans h3 hb.size, Kd.R_step h4 (fun k hk hlt => hb.block k (by omega))⟩
theorem eqS_c {W : World} {s1 s2 : Nat} {A : Option Addr} {q : Nat} {v : Value} {ps : List TV} {cur : World} {r : List S34} (hS : St W s1 A q r cur) (hT : TokS cur s2 v ps) (e : toks ps = r) (hl : r.length ≤ 6000) (hs : ∀ t ∈ r, t.f3.length ≤ 6000) :
    Calls Tryd.prog 7 #[v, .slice A r.length q] cur (fun e w' => e = .returned (.bool true) ∧ Below cur.heap.size cur w') := by
  obtain ⟨B, c, rfl, hc, hC⟩ := hT.reads
  obtain ⟨_, hq, hCs⟩ := Kd.R_reads' hS.2.2.2
  obtain ⟨t, rfl, K, hK⟩ := eqT_tells r hl hs
  have hlen : ps.length = r.length := by rw [← e, toks_len]
  rw [hlen] at hc hC ⊢
  rw [e] at hC
  exact laws_eqTokenS.calls K B c r A q r true cur hC hc hCs hq (hK K (Nat.le_refl _))
theorem held_c {s2 : Nat} {v : Value} {ps : List TV} {cur : World} (hT : TokS cur s2 v (mk mV1 cV 1 ps)) (hl : ps.length ≤ 6000) (hs : ∀ t ∈ toks ps, t.f3.length ≤ 6000) :
    Calls Tryd.prog 11 #[v, .int .i64 1] cur (fun e w' => e = .returned (.int .i64 (1 + cnt cV ps)) ∧ Below cur.heap.size cur w') := by
  obtain ⟨B, c, rfl, hc, hC⟩ := hT.reads
  rw [toks_mk] at hC
  obtain ⟨t, rfl, K, hK⟩ := heldT_tells (toks ps) (by rw [toks_len]; omega) (fun p hp => by have := hs p hp; omega) 1 (by omega) (by omega)
  have hlen : (mk mV1 cV 1 ps).length = (mT 1 (toks ps)).length := by rw [← toks_mk, toks_len]
  rw [hlen] at hc hC ⊢
  rw [cnt_toks]
  refine (laws_heldTokenS.calls K B c _ 1 _ cur hC hc (hK K (Nat.le_refl _))).mono ?_
  rintro e w' ⟨rfl, hd⟩
  exact ⟨rfl, hd.below⟩

end Go.Proofs.YtkkodbbgdndhmaaDoor.LxFnExactLex
