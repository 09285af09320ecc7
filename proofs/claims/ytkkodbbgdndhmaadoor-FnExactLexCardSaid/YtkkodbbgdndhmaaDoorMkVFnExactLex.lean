/- The marks of the law over tokens. -/
import Derived.Test.YtkkodbbgdndhmaaDoorMkTFnExactLex
import Derived.Test.YtkkodbbgdndhmaaDoorTkvFnExactLex
namespace Go.Proofs.YtkkodbbgdndhmaaDoor.LxFnExactLex
open Go.RowKit Go.Proofs.YtkkodbbgdndhmaaDoor.QFnExactLex Go.Proofs.YtkkodbbgdndhmaaDoorW.PrintWords Go.Proofs.YtkkodbbgdndhmaaDoorW.PrintLast
open Go.Proofs.YtkkodbbgdndhmaaDoor.ByteQFnExactLex (upB upB_len upB_snoc)
open Go.Proofs.YtkkodbbgdndhmaaDoor.MkpFnExactLex (mk cnt mpart mT mT1 cT part_0 part_all part_len part_get part_set cnt_take cnt_le cnt_most)
set_option linter.unusedVariables false
set_option linter.unusedSimpArgs false

theorem Kept.grown {w w1 : World} {P : Nat → Prop} {g : Nat} (h : w.grownBy w1 (some g)) (hg : P g) : Kept w w1 P := ⟨h.size, fun k hk hn => h.block k hk (fun e => hn (by injection e with e; rw [e]; exact hg))⟩
theorem Kept.tr {w w1 w2 : World} {P : Nat → Prop} (h : Kept w w1 P) (k : Kept w1 w2 P) : Kept w w2 P := ⟨Nat.le_trans h.1 k.1, fun i hi hn => (k.2 i (Nat.lt_of_lt_of_le hi h.1) hn).trans (h.2 i hi hn)⟩
theorem Kept.sub {w w1 : World} {P P' : Nat → Prop} (h : Kept w w1 P) (hp : ∀ k, P k → P' k) : Kept w w1 P' := ⟨h.1, fun i hi hn => h.2 i hi (fun hk => hn (hp i hk))⟩

/-! one text -/
theorem Txt.put {w : World} {b n cap : Nat} {xs : List Int} (h : Txt w (.slice (some ⟨b, 0, none⟩) n cap) xs) (i : Nat) (hi : i < n) (q : Int) :
    (∃ z, w.cell? ⟨b, i, none⟩ = some (.int .u8 z)) ∧ w.frozen? ⟨b, i, none⟩ = false ∧ Txt (w.setCell ⟨b, i, none⟩ (.int .u8 q)) (.slice (some ⟨b, 0, none⟩) n cap) (xs.set i q) ∧ Kept w (w.setCell ⟨b, i, none⟩ (.int .u8 q)) (Own (.slice (some ⟨b, 0, none⟩) n cap)) := by
  rcases h with ⟨h, _⟩ | ⟨b', cap', cur, fz, e, hb, h1, h2, h3, h4⟩
  · injection h with h; cases h
  · injection e with e1 e2 e3
    injection e1 with e1
    injection e1 with e1
    subst e1 e2 e3
    refine ⟨⟨_, (cell_blk hb i).trans (h3 i hi)⟩, ?_, .inr ⟨b, cap, cur.setIfInBounds i (.int .u8 q), fz, by rw [List.length_set], by simp [World.setCell, Array.getElem?_modify, hb], by rw [List.length_set]; exact h1, by rw [List.length_set]; exact h2, fun j hj => ?_, by rw [List.length_set]; exact h4⟩, ?_⟩
    · simp only [World.frozen?, hb]
      rcases h4 with rfl | h4
      · simp
      · simp; omega
    · rw [List.length_set] at hj
      by_cases hij : i = j
      · subst hij
        have hsz : i < cur.size := by
          have := h3 i hj
          exact (Array.getElem?_eq_some_iff.1 this).1
        rw [Array.getElem?_setIfInBounds_self_of_lt hsz, List.getD_eq_getElem?_getD, List.getElem?_set_self hj]
        rfl
      · rw [Array.getElem?_setIfInBounds_ne hij, h3 j hj, List.getD_eq_getElem?_getD, List.getD_eq_getElem?_getD, List.getElem?_set_ne hij]
    · exact ⟨by simp [World.setCell], fun k _ hn => Below.heap_setCell w ⟨b, i, none⟩ _ k (fun e => hn (by simp [Own, Value.ownBlock]; exact e))⟩
def bpart (k : Int) (xs : List Int) (i : Nat) : List Int := upB k i ++ xs.drop i
theorem bpart_set (k : Int) (xs : List Int) (i : Nat) (h : i < xs.length) : (bpart k xs i).set i ((k + i) % 256) = bpart k xs (i + 1) := by
  unfold bpart
  rw [List.set_append_right _ _ (by rw [upB_len]; omega), upB_len, Nat.sub_self, List.drop_eq_getElem_cons h, List.set_cons_zero, upB_snoc, List.append_assoc]
  rfl
theorem bpart_len (k : Int) (xs : List Int) (i : Nat) (h : i ≤ xs.length) : (bpart k xs i).length = xs.length := by
  unfold bpart
  rw [List.length_append, upB_len, List.length_drop]; omega

set_option maxHeartbeats 8000000 in
set_option maxRecDepth 100000 in
theorem markX_c (base : Nat) (w : World) (u : Value) (xs : List Int) (k : Int) (hT : Txt w u xs) (hown : ∀ j, Own u j → base ≤ j) (hl : xs.length ≤ 1048576) (h0 : 0 ≤ k) (h1 : k ≤ 1000000000) :
    Calls Tryd.prog 9 #[u, .int .i64 k] w (fun e w' => e = .returned (.int .i64 (k + xs.length)) ∧ Txt w' u (upB k xs.length) ∧ Below base w w' ∧ Kept w w' (Own u)) := by
  have HT := Lib.hid (show Txt w u (bpart k xs 0) from by unfold bpart; rw [List.drop_zero]; exact hT)
  have HK := Lib.hid (Kept.refl w (Own u))
  have HB := Lib.hid (Below.refl base w)
  have HO := Lib.hid hown
  obtain ⟨n, hn⟩ : ∃ n, n = xs.length := ⟨_, rfl⟩
  have HN := Lib.hid hn
  obtain ⟨A, c, e, _, hC⟩ := hT.reads
  rw [← hn] at e
  subst e
  have HV : Hid (0 < n → ∃ b, A = some ⟨b, 0, none⟩ ∧ base ≤ b) := Lib.hid (fun h => by
    rcases hT with ⟨_, e⟩ | ⟨b, cap, cur, fz, e, hb, _⟩
    · rw [hn, e] at h; exact absurd h (Nat.lt_irrefl _)
    · injection e with e _ _
      exact ⟨b, e, hown b (by rw [e]; simp [Own, Value.ownBlock])⟩)
  have hn2 : n ≤ 1048576 := by omega
  clear hT hC hn hl
  go_enter Tryd.func9, Tryd.ntmps9
  go_wp2
  go_loopw [1, 5] (fun v1 v5 wr => ∃ (i : Nat) (q : Int), v5 = .int .i64 i ∧ v1 = .int .i64 q ∧ i ≤ n ∧ Hid (q = k + i) ∧ Hid (Txt wr (.slice A n c) (bpart k xs i)) ∧ Hid (Below base w wr) ∧ Hid (Kept w wr (Own (.slice A n c)))) (fun _ v5 _ => (n - intOf v5).toNat)
  case atStart => exact ⟨0, k, rfl, rfl, Nat.zero_le _, Lib.hid (by omega), HT, HB, HK⟩
  case round =>
    clear HT HB HK
    obtain ⟨i, q, rfl, rfl, hi, HQ, HT, HB, HK⟩ := hrel
    by_cases hlt : i < n
    · have p0 : (0 : Int) ≤ (i : Int) := by omega
      have p1 : (i : Int) < (n : Int) := by omega
      obtain ⟨b, rfl, hb⟩ := HV.out (by omega)
      obtain ⟨⟨z, z0⟩, f0, hT1, hK1⟩ := HT.out.put i hlt (q % 256)
      have HE : Hid (Txt (wr.setCell ⟨b, i, none⟩ (.int .u8 (q % 256))) (.slice (some ⟨b, 0, none⟩) n c) (bpart k xs (i + 1))) := Lib.hid (by
        have e := bpart_set k xs i (by rw [← HN.out]; exact hlt)
        rw [← e, ← HQ.out]; exact hT1)
      have HB1 : Hid (Below base w (wr.setCell ⟨b, i, none⟩ (.int .u8 (q % 256)))) := Lib.hid (by
        have h := HB.out
        exact ⟨h.os, h.tape, h.output, by simpa [World.setCell] using h.size, fun j hj => (Below.heap_setCell wr ⟨b, i, none⟩ _ j (fun e => by have e : j = b := e; omega)).trans (h.block j hj)⟩)
      have HK1 := Lib.hid (Kept.tr HK.out hK1)
      have hq0 : 0 ≤ q := by have := HQ.out; omega
      have hq1 : q ≤ 1001048576 := by have := HQ.out; omega
      clear hT1 hK1
      go_wp2
      exact ⟨⟨i + 1, q + 1, by go_num, rfl, hlt, Lib.hid (by have := HQ.out; omega), HE, HB1, HK1⟩, by simp [intOf]; omega⟩
    · obtain rfl : i = n := by omega
      go_wp2
      go_ret
      refine ⟨(show Ending.returned (.int .i64 q) = _ from by rw [HQ.out, HN.out]), ?_, HB.out, HK.out⟩
      have h := HT.out
      rw [show bpart k xs i = upB k xs.length from by rw [HN.out]; unfold bpart; rw [List.drop_length, List.append_nil]] at h
      exact h

/-! the list -/
theorem S_of_R {w : World} {base : Nat} {ok : Nat → Prop} {v : Value} {xs : List TV} (h : Kd.R kv 34 w base ok v xs) : Kd.S kv 34 w base ok v xs := by
  obtain ⟨h0, inner, ho, hr⟩ := h
  refine ⟨fun _ => 0, h0, inner, by rw [List.length_zipIdx]; exact ho, ⟨by rw [List.length_zipIdx]; exact hr.1, fun j p hp => ?_⟩⟩
  rw [List.getElem?_zipIdx] at hp
  obtain ⟨x, hx, rfl⟩ := Option.map_eq_some_iff.1 hp
  exact hr.2 j x hx
theorem S_same {w : World} {base : Nat} {v : Value} {xs ys : List TV} (h : Kd.S kv 34 w base (fun _ => True) v xs) (hl : ys.length = xs.length) (hs : ∀ (j : Nat) (p q : TV), xs[j]? = some p → ys[j]? = some q → q.1.f0 = p.1.f0 ∧ q.1.f1 = p.1.f1 ∧ q.1.f2 = p.1.f2 ∧ q.2 = p.2) : Kd.S kv 34 w base (fun _ => True) v ys := by
  obtain ⟨h0, inner, ho, hr⟩ := Kd.S_R h
  refine S_of_R ⟨h0, inner, by rw [hl]; exact ho, ⟨by rw [hl]; exact hr.1, fun j q hq => ?_⟩⟩
  have hj : j < xs.length := by rw [← hl]; exact (List.getElem?_eq_some_iff.1 hq).1
  have hp := List.getElem?_eq_getElem hj
  obtain ⟨e0, e1, e2, e3⟩ := hs j _ q hp hq
  have hm := hr.2 j _ hp
  obtain ⟨hc, h1⟩ := hm
  refine ⟨?_, by rw [e3]; exact h1⟩
  rw [hc, e0, e1, e2, e3]
theorem kv_mkM (w : World) (base : Nat) (ok : Nat → Prop) (x : TV) (h : x.2.oneCell' = true) : kv.M w base ok x [.int .i64 x.1.f0, .int .i64 x.1.f1, .int .i64 x.1.f2, x.2] := ⟨rfl, h⟩
theorem putV {W : World} {base g n cap : Nat} {xs : List TV} (h : Kd.S kv 34 W base (fun _ => True) (.slice (some ⟨g, 0, none⟩) n cap) xs) (i : Nat) (hi : i < n) (j : Nat) (hj : j < 3) (q : Int) (y : TV)
    (hy : y = if j = 0 then (⟨q, (xs.getD i tz).1.f1, (xs.getD i tz).1.f2, (xs.getD i tz).1.f3⟩, (xs.getD i tz).2) else if j = 1 then (⟨(xs.getD i tz).1.f0, q, (xs.getD i tz).1.f2, (xs.getD i tz).1.f3⟩, (xs.getD i tz).2) else (⟨(xs.getD i tz).1.f0, (xs.getD i tz).1.f1, q, (xs.getD i tz).1.f3⟩, (xs.getD i tz).2)) :
    (∃ z, W.cell? ⟨g, i * 4 + j, none⟩ = some (.int .i64 z)) ∧ W.frozen? ⟨g, i * 4 + j, none⟩ = false ∧ Kd.S kv 34 (W.setCell ⟨g, i * 4 + j, none⟩ (.int .i64 q)) base (fun _ => True) (.slice (some ⟨g, 0, none⟩) n cap) (xs.set i y) ∧ W.grownBy (W.setCell ⟨g, i * 4 + j, none⟩ (.int .i64 q)) (some g) ∧ W.cell? ⟨g, i * 4 + 3, none⟩ = some (xs.getD i tz).2 := by
  have h' : Kd.S kv 34 W base (fun k => True ∧ ¬ False) (.slice (some ⟨g, 0, none⟩) n cap) xs := Kd.S_mono h (fun _ hk => ⟨hk, id⟩)
  obtain ⟨oki, c, hcl, hM, hcc, hfr, hoki, hH⟩ := Kd.S_elem h' tz (i : Int) (by omega) (by omega)
  rw [Int.toNat_natCast] at hM hcc hfr
  obtain ⟨rfl, hone⟩ := hM
  have hs := fun (y : TV) (hm : _) => Kd.S_seg (okg := fun _ => False) (ok := fun _ => True) hH (by omega) (by omega) (seg := [.int .i64 q]) (j := j) (show j + 1 ≤ 4 by omega) (x' := y) (okp := oki) hm (fun _ hk => .inl hk) (fun _ hk => hk.elim)
  rw [Int.toNat_natCast] at hs
  have e : j = 0 ∨ j = 1 ∨ j = 2 := by omega
  rcases e with rfl | rfl | rfl
  · rw [if_pos rfl] at hy; subst hy
    obtain ⟨a, b⟩ := hs _ (kv_mkM W base oki (⟨q, (xs.getD i tz).1.f1, (xs.getD i tz).1.f2, (xs.getD i tz).1.f3⟩, (xs.getD i tz).2) hone)
    exact ⟨⟨_, hcc 0 _ rfl⟩, hfr 0, a, b, hcc 3 _ rfl⟩
  · rw [if_neg (by decide), if_pos rfl] at hy; subst hy
    obtain ⟨a, b⟩ := hs _ (kv_mkM W base oki (⟨(xs.getD i tz).1.f0, q, (xs.getD i tz).1.f2, (xs.getD i tz).1.f3⟩, (xs.getD i tz).2) hone)
    exact ⟨⟨_, hcc 1 _ rfl⟩, hfr 1, a, b, hcc 3 _ rfl⟩
  · rw [if_neg (by decide), if_neg (by decide)] at hy; subst hy
    obtain ⟨a, b⟩ := hs _ (kv_mkM W base oki (⟨(xs.getD i tz).1.f0, (xs.getD i tz).1.f1, q, (xs.getD i tz).1.f3⟩, (xs.getD i tz).2) hone)
    exact ⟨⟨_, hcc 2 _ rfl⟩, hfr 2, a, b, hcc 3 _ rfl⟩
def key (p : TV) : Value × List Int := (p.2, p.1.f3)
theorem Deep.same {w : World} {lo : Nat} {xs ys : List TV} (h : Deep w lo xs) (e : ys.map key = xs.map key) : Deep w lo ys := by
  have hm : ∀ p ∈ ys, ∃ q ∈ xs, key q = key p := fun p hp => by
    have h2 : key p ∈ xs.map key := by rw [← e]; exact List.mem_map_of_mem hp
    obtain ⟨q, hq, e2⟩ := List.mem_map.1 h2
    exact ⟨q, hq, e2⟩
  refine ⟨fun p hp => ?_, ?_⟩
  · obtain ⟨q, hq, e2⟩ := hm p hp
    injection e2 with e2 e3
    have := h.1 q hq
    rw [e2, e3] at this
    exact this
  · have h2 : (xs.map key).Pairwise (fun a b => ∀ k, Own a.1 k → ¬ Own b.1 k) := List.pairwise_map.2 h.2
    rw [← e] at h2
    exact List.pairwise_map.1 h2
theorem Deep.mark {w w' : World} {lo : Nat} {xs : List TV} {i : Nat} (hi : i < xs.length) {new : S34} (h : Deep w lo xs) (hk : Kept w w' (Own xs[i].2)) (ht : Txt w' xs[i].2 new.f3) : Deep w' lo (xs.set i (new, xs[i].2)) := by
  have hpw := List.pairwise_iff_getElem.1 h.2
  refine ⟨fun p hp => ?_, ?_⟩
  · obtain ⟨j, hj, e⟩ := List.getElem_of_mem hp
    rw [List.length_set] at hj
    by_cases hij : i = j
    · subst hij
      rw [List.getElem_set_self] at e
      rw [← e]
      exact ⟨ht, (h.1 xs[i] (List.getElem_mem hi)).2⟩
    · rw [List.getElem_set_ne hij] at e
      rw [← e]
      have hx := h.1 xs[j] (List.getElem_mem hj)
      refine ⟨hx.1.move (fun k hk1 hlt => hk.2 k hlt (fun hk2 => ?_)), hx.2⟩
      rcases Nat.lt_or_gt_of_ne hij with hlt | hgt
      · exact hpw i j hi hj hlt k hk2 hk1
      · exact hpw j i hj hi hgt k hk1 hk2
  · have e : (xs.set i (new, xs[i].2)).map Prod.snd = xs.map Prod.snd := by
      rw [List.map_set]
      have e2 : (xs.map Prod.snd)[i]'(by simpa using hi) = xs[i].2 := by simp
      show (xs.map Prod.snd).set i xs[i].2 = _
      rw [← e2, List.set_getElem_self]
    have h2 : (xs.map Prod.snd).Pairwise (fun a b => ∀ k, Own a k → ¬ Own b k) := List.pairwise_map.2 h.2
    rw [← e] at h2
    exact List.pairwise_map.1 h2
def mV1 (k : Int) (p : TV) : TV := (mT1 k p.1, p.2)
def cV (p : TV) : Nat := cT p.1
theorem toks_mk (ps : List TV) : ∀ k, toks (mk mV1 cV k ps) = mT k (toks ps) := by
  induction ps with
  | nil => intro k; rfl
  | cons p ps ih =>
    intro k
    show mT1 k p.1 :: toks (mk mV1 cV (k + cV p) ps) = mT1 k p.1 :: mT (k + cT p.1) (toks ps)
    rw [ih]; rfl
theorem cnt_toks (ps : List TV) : cnt cV ps = cnt cT (toks ps) := by
  induction ps with
  | nil => rfl
  | cons p ps ih =>
    show cV p + cnt cV ps = cT p.1 + cnt cT (toks ps)
    rw [ih]; rfl

end Go.Proofs.YtkkodbbgdndhmaaDoor.LxFnExactLex
