/- The contract of impl.Lex. -/
import Derived.Test.YtkkodbbgdndhmaaDoorLxnFnExactLex
import Derived.Test.YtkkodbbgdndhmaaDoorLexGFnExactLex
namespace Go.Proofs.YtkkodbbgdndhmaaDoor.LxFnExactLex
open Go.RowKit Go.Proofs.YtkkodbbgdndhmaaDoor.QFnExactLex Go.Proofs.YtkkodbbgdndhmaaDoorW.PrintWords Go.Proofs.YtkkodbbgdndhmaaDoorW.PrintLast Go.Proofs.YtkkodbbgdndhmaaDoor.LexA Go.Proofs.YtkkodbbgdndhmaaDoor.Fw
set_option linter.unusedSimpArgs false
set_option linter.unusedVariables false

def LexV (l : List Int) (w : World) (e : Ending) (w' : World) : Prop := ∃ (v : Value) (ps : List TV) (c : Int), e = .returned (.tuple #[v, .int .i64 c]) ∧ TokS w' w.heap.size v ps ∧ Below w.heap.size w w' ∧ LexOf l (toks ps) c
theorem S_of_nil {w : World} {base : Nat} {ok : Nat → Prop} {v : Value} (h : Kd.R kv 34 w base ok v []) : Kd.S kv 34 w base ok v [] := by
  obtain ⟨h0, inner, ho, hr⟩ := h
  exact ⟨fun _ => 0, h0, inner, ho, ⟨by simpa using hr.1, fun j p hp => by simp at hp⟩⟩
theorem app_step {base : Nat} {wr W w5 : World} {v4 v1 v3 : Value} {ps : List TV} {t : S34} (hT : TokS wr base v4 ps) (hW : Below wr.heap.size wr W) (ht : Txt W v3 t.f3) (hown : ∀ k, Own v3 k → wr.heap.size ≤ k) (hbase : base ≤ wr.heap.size) (hS : Kd.S kv 34 w5 base (fun _ => True) v1 (ps ++ [(t, v3)])) (hg : W.grownBy w5 v4.ownBlock) : TokS w5 base v1 (ps ++ [(t, v3)]) := by
  have hne : ∀ k cur fz, W.heap[k]? = some (.cells cur 5 fz) → some k ≠ v4.ownBlock := by
    intro k cur fz hk e
    obtain ⟨cells, hc⟩ := Kd.S_typed hT.1 k e.symm
    rw [blk_below hc hW] at hk
    injection hk with hk
    injection hk with _ hk _
    exact absurd hk (by decide)
  refine ⟨hS, ((hT.2.below hW).move (fun p hp k hk hlt => ?_)).snoc ?_ (fun k hk => Nat.le_trans hbase (hown k hk)) (fun q hq k hk hk2 => ?_)⟩
  · obtain ⟨cur, fz, hc⟩ := ((hT.2.below hW).1 p hp).1.typed k hk
    exact hg.block k hlt (hne k cur fz hc)
  · refine ht.move (fun k hk hlt => ?_)
    obtain ⟨cur, fz, hc⟩ := ht.typed k hk
    exact hg.block k hlt (hne k cur fz hc)
  · have h1 := (hT.2.1 q hq).1.lt k hk
    have h2 := hown k hk2
    omega
theorem lex_facts {wr w2 w3 w4 : World} {g6 : Nat} {a b c : Value} {v3 : Value} {xs : List Int} (hB2 : Below wr.heap.size wr w2) (hB3 : Below w2.heap.size w2 w3) (hG : g6 = w2.heap.size) (hX : w3.heap[g6]? = some (.cells #[.int .i64 0, .int .i64 0, .int .i64 0, .slice none 0 0] 34 (0, 0))) (ht : Txt w2 v3 xs)
    (hW : w4 = (((w3.setCell ⟨g6, 0, none⟩ a).setCell ⟨g6, 1, none⟩ b).setCell ⟨g6, 2, none⟩ c).setCell ⟨g6, 3, none⟩ v3) :
    w4.heap[g6]? = some (.cells #[a, b, c, v3] 34 (0, 0)) ∧ Below wr.heap.size wr w4 ∧ Txt w4 v3 xs ∧ wr.heap.size ≤ g6 := by
  have h2 : wr.heap.size ≤ g6 := by rw [hG]; exact hB2.size
  rw [hW]
  refine ⟨set4 hX _ _ _ _, below_set (below_set (below_set (below_set (below_step hB2 hB3) h2) h2) h2) h2, (ht.below hB3).move (fun k hk hlt => ?_), h2⟩
  have h := ht.lt k hk
  exact far4 _ g6 _ _ _ _ k (by omega)
theorem toks_snoc (ps : List TV) (p : TV) : toks (ps ++ [p]) = toks ps ++ [p.1] := List.map_append

set_option maxHeartbeats 16000000 in
set_option maxRecDepth 100000 in
theorem lex_c (A : Option Addr) (c : Nat) (l : List Int) (w : World) (hr : Kd.C (Kd.int .u8) w A l.length l) (hc : l.length ≤ c) (hl : l.length ≤ 1048576) (hby : Byt l) (hL : LW w) :
    Calls Tryd.prog 6 #[.slice A l.length c] w (LexV l w) := by
  have hu34 := Tryd.underlying34
  obtain ⟨n, hn⟩ : ∃ n, n = l.length := ⟨_, rfl⟩
  have HN := Lib.hid hn
  by_cases hbig : 6000 < l.length
  · rw [← hn] at hbig ⊢
    have p0 : (6000 : Int) < (n : Int) := by omega
    go_enter Tryd.func6, Tryd.ntmps6
    go_wp2
    go_ret2
    exact ⟨_, [], 0, rfl, tok_nil _ _, Below.refl _ _, .inl ⟨by rw [← HN.out]; exact hbig, rfl, rfl⟩⟩
  · have HNx : Hid (∀ (i : Nat) (wr : World) (ad : Addr), A = some ad → i < n → Below w.heap.size w wr → Calls Tryd.prog 17 #[.slice (some (ad.add i)) (n - i) (c - i)] wr (NextV (l.drop i) wr)) := Lib.hid (fun i wr ad hA hi hb => by
      have hd := Kd.C_drop (Kd.C_below hr hb) (m := i) (by omega) hc
      have hs : (Kd.int .u8).sz = 1 := rfl
      rw [hs, Nat.mul_one, if_neg (by omega), hA] at hd
      have h := next_c (some (ad.add i)) (c - i) (l.drop i) wr hd (by rw [List.length_drop]; omega) (by rw [List.length_drop]; omega) (by rw [List.length_drop]; omega) (hby.drop i) (hL.below hb)
      rw [List.length_drop, ← hn] at h
      exact h)
    have HR : Hid (∀ (i : Nat) (wr : World), i < n → Below w.heap.size w wr → ∃ ad, A = some ad ∧ wr.cell? (ad.add i) = some (.int .u8 (l.getD i 0))) := Lib.hid (fun i wr hi hb => by
      obtain ⟨ad, e, x⟩ := Kd.at_int (Kd.C_below hr hb) (i : Int) (by omega) (by omega)
      rw [Int.toNat_natCast] at x
      exact ⟨ad, e, by rw [x]; unfold rd; rw [Int.toNat_natCast]⟩)
    rw [← hn] at hbig hc ⊢
    have hn6 : n ≤ 6000 := by omega
    have p0 : ¬ (6000 : Int) < (n : Int) := by omega
    clear hr hby hL hl hn hbig
    go_enter Tryd.func6, Tryd.ntmps6
    go_wp2_with ((with_reducible refine gate_dst (N := 11) rfl ?_); refine Kd.R_lit kv _ 34 ?hg (N := 11) ?hd (xs := ([] : List TV)) (inner := []) (ok := fun _ => True) (okp := fun _ => True) ?hr ?hp (fun _ hk => hk) trivial (Below.refl _ _) (Nat.le_refl _) (by simp) ?_; (case hd => rfl); (case hg => rfl); (case hr => first | (go_simp; done) | (go_simp; rfl)); (case hp => exact (Reps.none _ _)); intro v0 w1 ho hb hg_ hnew_; clear hg_ hnew_; have HT0 := Lib.hid (S_of_nil ho); have HB0 := Lib.hid hb; clear ho hb)
    go_loopw [4, 5] (fun v4 v5 wr => ∃ (i : Nat) (ps : List TV), v5 = .int .i64 i ∧ i ≤ n ∧ ps.length ≤ i ∧ Hid (TokS wr w.heap.size v4 ps) ∧ Hid (Below w.heap.size w wr) ∧ Hid (∀ r c, Lexed l i (toks ps) r c → Lexed l 0 [] r c)) (fun _ v5 _ => (n - intOf v5).toNat)
    case atStart => exact ⟨0, [], rfl, Nat.zero_le _, Nat.le_refl _, Lib.hid ⟨HT0.out, Deep.nil _ _⟩, HB0, Lib.hid (fun r c h => h)⟩
    case round =>
      clear HT0 HB0
      obtain ⟨i, ps, rfl, hi, hps, HT, HB, HK⟩ := hrel
      by_cases hlt : i < n
      · have p1 : (i : Int) < (n : Int) := by omega
        obtain ⟨ad, rfl, x1⟩ := HR.out i wr hlt HB.out
        have HNi := Lib.hid (HNx.out i wr ad rfl hlt HB.out)
        obtain ⟨y, hy⟩ : ∃ y, l.getD i 0 = y := ⟨_, rfl⟩
        have HY := Lib.hid hy
        rw [hy] at x1
        clear hy
        by_cases hb : blankB y = true
        · have HK2 : Hid (∀ r c, Lexed l (i + 1) (toks ps) r c → Lexed l 0 [] r c) := Lib.hid (fun r c h => HK.out r c (.blank i _ r c (by rw [← HN.out]; exact hlt) (by rw [HY.out]; exact hb) h))
          have h2 : y = 32 ∨ (y ≠ 32 ∧ y = 10) := by
            by_cases h : y = 32
            · exact .inl h
            · refine .inr ⟨h, ?_⟩
              unfold blankB at hb
              rw [decide_eq_false h, Bool.false_or] at hb
              exact of_decide_eq_true hb
          rcases h2 with rfl | ⟨h2, rfl⟩
          · go_wp2
            exact ⟨⟨i + 1, ps, by go_num, hlt, by omega, HT, HB, HK2⟩, by simp [intOf]; omega⟩
          · go_wp2
            exact ⟨⟨i + 1, ps, by go_num, hlt, by omega, HT, HB, HK2⟩, by simp [intOf]; omega⟩
        · have hb : blankB y = false := Bool.eq_false_iff.2 hb
          have d1 : (y == 32) = false := by
            unfold blankB at hb
            rw [Bool.or_eq_false_iff] at hb
            exact beq_eq_false_iff_ne.2 (of_decide_eq_false hb.1)
          have d2 : (y == 10) = false := by
            unfold blankB at hb
            rw [Bool.or_eq_false_iff] at hb
            exact beq_eq_false_iff_ne.2 (of_decide_eq_false hb.2)
          have hci : ¬ c = i := by omega
          have q1 : (i : Int) ≤ (n : Int) := by omega
          have q0 : (0 : Int) ≤ (i : Int) := by omega
          go_upto_region 9 with (first | (go_at_call 17; refine HNi.out.mono ?_; rintro e w2 ⟨t, v3, m, rfl, ht, ho, hb, hy, hno⟩; obtain ⟨Av, cv, ev, _⟩ := ht.reads; subst ev; have HTx := Lib.hid ht; have HO := Lib.hid ho; have HB2 := Lib.hid hb; have HYes := Lib.hid hy; have HNo := Lib.hid hno; clear ht ho hb hy hno) | ((with_reducible refine gate_dst (N := 6) rfl ?_); refine box_event ?hg (N := 6) ?hd (cs := #[.int .i64 0, .int .i64 0, .int .i64 0, .slice none 0 0]) (t := 34) ?hr ?_; (case hd => rfl); (case hg => rfl); (case hr => first | (go_simp; done) | (go_simp; rfl)); intro g6 hg w3 hbox hb; have HG6 := Lib.hid hg; have HB3 := Lib.hid hb; have HX6 := Lib.hid hbox; obtain ⟨z0, z1, z2, z3⟩ := four hbox; have f0 := blk_frozen hbox 0; have f1 := blk_frozen hbox 1; have f2 := blk_frozen hbox 2; have f3 := blk_frozen hbox 3; clear hg hbox hb))
          generalize hW : World.setCell _ _ _ = w4
          obtain ⟨hx4, hb4, ht4, hg6⟩ := lex_facts HB2.out HB3.out HG6.out HX6.out HTx.out hW.symm
          have HX4 := Lib.hid hx4
          have HW4 := Lib.hid hb4
          have HT4 := Lib.hid ht4
          clear hW hx4 hb4 ht4 z0 z1 z2 z3 f0 f1 f2 f3 HB2 HB3 HG6 HX6 HTx HNi x1 d1 d2 hci
          by_cases hm : m = 0
          · subst hm
            go_wp2
            go_ret2
            exact ⟨_, [], (i : Int), rfl, tok_nil _ _, below_step HB.out HW4.out, .inr ⟨by rw [← HN.out]; exact hn6, HK.out _ _ (.bad i _ (by rw [← HN.out]; exact hlt) (by rw [HY.out]; exact hb) (HNo.out (by first | rfl | trivial)))⟩⟩
          · have hpos : 0 < m := Nat.pos_of_ne_zero hm
            have hnx := HYes.out hpos
            have hle := hnx.le (by rw [List.length_drop, ← HN.out]; omega)
            rw [List.length_drop, ← HN.out] at hle
            have d3 : ((m : Int) == 0) = false := beq_eq_false_iff_ne.2 (by omega)
            have hb4 := HW4.out
            obtain ⟨z0, z1, z2, z3⟩ := four HX4.out
            have f1 := blk_frozen HX4.out 1
            clear hm hb4
            go_upto_region 12 with fail
            generalize hW : World.setCell _ _ _ = w5
            have HX5 : Hid (w5.heap[g6]? = some (.cells #[.int .i64 t.f0, .int .i64 i, .int .i64 t.f2, .slice Av t.f3.length cv] 34 (0, 0))) := Lib.hid (by rw [← hW]; simpa using blk_set HX4.out 1 (.int .i64 i))
            have HW5 : Hid (Below wr.heap.size wr w5) := Lib.hid (by rw [← hW]; exact below_set HW4.out hg6)
            have HT5 : Hid (Txt w5 (.slice Av t.f3.length cv) t.f3) := Lib.hid (by
              rw [← hW]
              refine HT4.out.move (fun k hk hlt => Below.heap_setCell _ ⟨g6, 1, none⟩ _ k (fun e => ?_))
              obtain ⟨cur, fz, hc⟩ := HT4.out.typed k hk
              have e : k = g6 := e
              rw [e, HX4.out] at hc
              injection hc with hc
              injection hc with _ hc _
              exact absurd hc (by decide))
            clear hW z0 z1 z2 z3 f1 HX4 HW4 HT4
            obtain ⟨z0, z1, z2, z3⟩ := four HX5.out
            have hsz : (ps.length + 1) * 48 ≤ 140737488355328 := by omega
            have hbs : w.heap.size ≤ w5.heap.size := Nat.le_trans HB.out.size HW5.out.size
            go_wp2_with ((with_reducible refine gate_builtin (b := .append) (xs := #[.tmp 42, .tmp 44]) rfl ?_); (try (refine gate_guard (by rfl) ?_; dsimp only)); at_builtin; refine Kd.S_append kv (w0 := w) w.heap.size rfl (.tmp 42) (.tmp 44) 23 34 (.agg #[(.int .i64 0), (.int .i64 0), (.int .i64 0), (.slice none 0 0)]) 48 rfl Tryd.underlying23 info34 rfl (by decide) (by omega) u4 ps ((⟨t.f0, i, t.f2, t.f3⟩ : S34), .slice Av t.f3.length cv) [.int .i64 t.f0, .int .i64 i, .int .i64 t.f2, .slice Av t.f3.length cv] (fun _ => True) (fun _ => False) rfl rfl ?aP (fun _ h => h.elim) ?aF ?aO ?aB ?aS ?aL ?_; (case aP => exact ⟨rfl, rfl⟩); (case aB => exact below_step HB.out HW5.out); (case aF => exact (fun _ _ => trivial)); (case aO => exact Kd.S_mono (Kd.S_below HT.out.1 HW5.out) (fun _ _ => ⟨trivial, id⟩)); (case aS => exact hbs); (case aL => exact hsz); intro v5 w6 hS hb6 hg6' hat6; have HT6 := Lib.hid (app_step (t := ⟨t.f0, i, t.f2, t.f3⟩) HT.out HW5.out HT5.out HO.out HB.out.size hS hg6'); have HB6 := Lib.hid hb6; clear hS hb6 hg6' hat6)
            exact ⟨⟨i + m, ps ++ [((⟨t.f0, i, t.f2, t.f3⟩ : S34), .slice Av t.f3.length cv)], by go_num, by omega, by simp; omega, HT6, HB6, Lib.hid (fun r c h => HK.out r c (.tok i m t _ r c (by rw [← HN.out]; exact hlt) (by rw [HY.out]; exact hb) hnx (by rw [toks_snoc] at h; exact h)))⟩, by simp [intOf]; omega⟩
      · obtain rfl : i = n := by omega
        go_wp2
        go_ret2
        exact ⟨_, ps, -1, rfl, HT.out, HB.out, .inr ⟨by rw [← HN.out]; exact hn6, HK.out _ _ (.done _ _ (by rw [← HN.out]; exact Nat.le_refl _))⟩⟩

end Go.Proofs.YtkkodbbgdndhmaaDoor.LxFnExactLex
