/- The contract of the law's marks over tokens. -/
import Derived.Test.YtkkodbbgdndhmaaDoorMkVFnExactLex
namespace Go.Proofs.YtkkodbbgdndhmaaDoor.LxFnExactLex
open Go.RowKit Go.Proofs.YtkkodbbgdndhmaaDoor.QFnExactLex Go.Proofs.YtkkodbbgdndhmaaDoorW.PrintWords Go.Proofs.YtkkodbbgdndhmaaDoorW.PrintLast
open Go.Proofs.YtkkodbbgdndhmaaDoor.ByteQFnExactLex (upB upB_len upB_snoc)
open Go.Proofs.YtkkodbbgdndhmaaDoor.MkpFnExactLex (mk cnt mpart mT mT1 cT part_0 part_all part_len part_get part_set cnt_take cnt_le cnt_most mk_len)
set_option linter.unusedVariables false
set_option linter.unusedSimpArgs false

theorem below_put {base : Nat} {w w1 : World} {g j : Nat} {u : Value} (h : Below base w w1) (hg : base ≤ g) : Below base w (w1.setCell ⟨g, j, none⟩ u) :=
  ⟨h.os, h.tape, h.output, by simpa [World.setCell] using h.size, fun i hi => (Below.heap_setCell w1 ⟨g, j, none⟩ u i (fun e => by have e : i = g := e; omega)).trans (h.block i hi)⟩
theorem cell3 {W : World} {base g n cap : Nat} {xs : List TV} (h : Kd.S kv 34 W base (fun _ => True) (.slice (some ⟨g, 0, none⟩) n cap) xs) (i : Nat) (hi : i < n) : W.cell? ⟨g, i * 4 + 3, none⟩ = some (xs.getD i tz).2 :=
  (putV h i hi 0 (by decide) 0 _ rfl).2.2.2.2
theorem own_ne {w : World} {v : Value} {xs : List Int} {g : Nat} {cells : Array Value} (h : Txt w v xs) (hg : w.heap[g]? = some (.cells cells 34 (0, 0))) (k : Nat) (hk : Own v k) : k ≠ g := by
  rintro rfl
  obtain ⟨cur, fz, hc⟩ := h.typed k hk
  rw [hg] at hc
  injection hc with hc
  injection hc with _ hc _
  exact absurd hc (by decide)
theorem deep_put {w w3 : World} {base g : Nat} {L : List TV} {cells : Array Value} {i : Nat} {p : TV} (hD : Deep w base L) (hg : w.heap[g]? = some (.cells cells 34 (0, 0))) (hk : Kept w w3 (fun k => k = g)) (hi : i < L.length) (hp : L.getD i tz = p) (a b c : Int) : Deep w3 base (L.set i (⟨a, b, c, p.1.f3⟩, p.2)) := by
  have h1 : Deep w3 base L := hD.move (fun q hq k hk1 hlt => hk.2 k hlt (own_ne (hD.1 q hq).1 hg k hk1))
  refine h1.same ?_
  rw [List.map_set]
  have e2 : (L.map key)[i]'(by simpa using hi) = key p := by
    rw [← hp, List.getD_eq_getElem?_getD, List.getElem?_eq_getElem hi]; simp
  show (L.map key).set i (key p) = _
  rw [← e2, List.set_getElem_self]
theorem mark_step {base : Nat} {w3 w4 : World} {v : Value} {L : List TV} {i : Nat} {q : Int} {p : TV} (hi : i < L.length) (hS : Kd.S kv 34 w3 base (fun _ => True) v (L.set i (⟨q, q + 1, q + 2, p.1.f3⟩, p.2))) (hD : Deep w3 base (L.set i (⟨q, q + 1, q + 2, p.1.f3⟩, p.2))) (ht : Txt w4 p.2 (upB (q + 3) p.1.f3.length)) (hk : Kept w3 w4 (Own p.2)) : TokS w4 base v (L.set i (mV1 q p)) := by
  have hset : (L.set i (⟨q, q + 1, q + 2, p.1.f3⟩, p.2)).set i (mV1 q p) = L.set i (mV1 q p) := by rw [List.set_set]
  have hli : i < (L.set i (⟨q, q + 1, q + 2, p.1.f3⟩, p.2)).length := by rw [List.length_set]; exact hi
  have hgi : (L.set i ((⟨q, q + 1, q + 2, p.1.f3⟩ : S34), p.2))[i] = (⟨q, q + 1, q + 2, p.1.f3⟩, p.2) := List.getElem_set_self _
  constructor
  · have htp : Txt w3 p.2 p.1.f3 := by
      have := (hD.1 _ (List.getElem_mem hli)).1
      rw [hgi] at this
      exact this
    have h1 : Kd.S kv 34 w4 base (fun _ => True) v (L.set i (⟨q, q + 1, q + 2, p.1.f3⟩, p.2)) := Kd.S_mono (Kd.S_step (Kd.S_bound hS) (fun k hk1 hlt => hk.2 k hlt (fun hk2 => by
      obtain ⟨_, _, _, t, ht, cells, hc⟩ := hk1
      have e : t = 34 := by simpa [kv] using ht
      subst e
      exact own_ne htp hc k hk2 rfl))) (fun _ _ => trivial)
    rw [← hset]
    refine S_same h1 (by rw [List.length_set]) (fun j x y hx hy => ?_)
    by_cases hij : i = j
    · subst hij
      rw [List.getElem?_set_self hli] at hy
      rw [List.getElem?_set_self hi] at hx
      injection hx with hx
      injection hy with hy
      subst hx hy
      exact ⟨rfl, rfl, rfl, rfl⟩
    · rw [List.getElem?_set_ne hij, hx] at hy
      injection hy with hy
      subst hy
      exact ⟨rfl, rfl, rfl, rfl⟩
  · rw [← hset]
    have h := hD.mark (i := i) hli (new := mT1 q p.1) (w' := w4) (by rw [hgi]; exact hk) (by rw [hgi]; exact ht)
    rw [hgi] at h
    exact h

set_option maxHeartbeats 16000000 in
set_option maxRecDepth 100000 in
theorem markT_c (base : Nat) (w : World) (v : Value) (ps : List TV) (k : Int) (hT : TokS w base v ps) (hl : ps.length ≤ 6000) (hs : ∀ p ∈ ps, p.1.f3.length ≤ 6000) (h0 : 0 ≤ k) (h1 : k ≤ 1000) :
    Calls Tryd.prog 10 #[v, .int .i64 k] w (fun e w' => e = .returned (.int .i64 (k + cnt cV ps)) ∧ TokS w' base v (mk mV1 cV k ps) ∧ Below base w w') := by
  have hall := cnt_most (ce := cV) 6003 ps (fun c hc => by have := hs c hc; unfold cV cT; omega)
  have HT := Lib.hid (show TokS w base v (mpart mV1 cV k ps 0) from by rw [part_0]; exact hT)
  have HB := Lib.hid (Below.refl base w)
  have HM := Lib.hid hs
  obtain ⟨n, hn⟩ : ∃ n, n = ps.length := ⟨_, rfl⟩
  have HN := Lib.hid hn
  obtain ⟨A, c, e, _⟩ := hT.reads
  rw [← hn] at e
  subst e
  have HV : Hid (0 < n → ∃ g, A = some ⟨g, 0, none⟩ ∧ base ≤ g) := Lib.hid (fun h => by
    obtain ⟨g, _, e, hg, _⟩ := Kd.S_form hT.1 (by omega)
    injection e with e _ _
    exact ⟨g, e, hg⟩)
  have hn2 : n ≤ 6000 := by omega
  clear hT hs hn
  go_enter Tryd.func10, Tryd.ntmps10
  go_wp2
  go_loopw [1, 5] (fun v1 v5 wr => ∃ (i : Nat) (q : Int), v5 = .int .i64 i ∧ v1 = .int .i64 q ∧ i ≤ n ∧ Hid (q = k + cnt cV (ps.take i)) ∧ Hid (TokS wr base (.slice A n c) (mpart mV1 cV k ps i)) ∧ Hid (Below base w wr)) (fun _ v5 _ => (n - intOf v5).toNat)
  case atStart => exact ⟨0, k, rfl, rfl, Nat.zero_le _, Lib.hid (by rw [List.take_zero]; show k = k + ((0 : Nat) : Int); omega), HT, HB⟩
  case round =>
    clear HT HB
    obtain ⟨i, q, rfl, rfl, hi, HQ, HT, HB⟩ := hrel
    by_cases hlt : i < n
    · have p0 : (0 : Int) ≤ (i : Int) := by omega
      have p1 : (i : Int) < (n : Int) := by omega
      obtain ⟨g, rfl, hg⟩ := HV.out (by omega)
      have hil : i < ps.length := by rw [← HN.out]; exact hlt
      have hct := cnt_take (ce := cV) ps i hil
      have hle := cnt_le (ce := cV) ps (i + 1)
      have hq := HQ.out
      obtain ⟨p, hp⟩ : ∃ p, p = ps[i] := ⟨_, rfl⟩
      have hsl : p.1.f3.length ≤ 6000 := by rw [hp]; exact HM.out ps[i] (List.getElem_mem hil)
      rw [← hp] at hct
      have hcm : cV p = 3 + p.1.f3.length := rfl
      have hq0 : 0 ≤ q := by omega
      have hq1 : q ≤ 100000000 := by omega
      have HE : Hid (q + 3 + (p.1.f3.length : Int) = k + cnt cV (ps.take (i + 1))) := Lib.hid (by omega)
      obtain ⟨L, hL⟩ : ∃ L, L = mpart mV1 cV k ps i := ⟨_, rfl⟩
      have HPs : Hid (L.set i (mV1 q p) = mpart mV1 cV k ps (i + 1)) := Lib.hid (by rw [hL, hp, hq]; exact part_set k ps i hil)
      have hlen : i < L.length := by rw [hL, part_len k ps i (by omega)]; exact hil
      have hg0 : L.getD i tz = p := by rw [hL, part_get k ps tz i hil]; exact hp.symm
      rw [← hL] at HT
      have hget : ∀ y, (L.set i y).getD i tz = y := fun y => by
        rw [List.getD_eq_getElem?_getD, List.getElem?_set_self hlen]; rfl
      have Hget := Lib.hid hget
      obtain ⟨_, _, _, _, _, cells, hc⟩ := Kd.S_form HT.out.1 (by omega)
      have HX : Hid (wr.heap[g]? = some (.cells cells 34 (0, 0))) := Lib.hid (by
        rename_i e _ _
        injection e with e _ _
        injection e with e
        injection e with e _ _
        rw [e]; exact hc)
      clear hc
      obtain ⟨⟨za, z0⟩, f0, hS1, hG1, _⟩ := putV HT.out.1 i hlt 0 (by decide) q _ rfl
      change wr.cell? ⟨g, i * 4, none⟩ = some (.int .i64 za) at z0
      change wr.frozen? ⟨g, i * 4, none⟩ = false at f0
      rw [hg0, if_pos rfl] at hS1
      have HPut := Lib.hid (And.intro hS1 hG1)
      clear hct hle hq hS1 hG1 hget hL
      go_upto_region 6 with fail
      generalize hW : World.setCell wr _ _ = w1
      rw [show (⟨g, i * 4 + 0, none⟩ : Addr) = ⟨g, i * 4, none⟩ from rfl, hW] at HPut
      have HB1 : Hid (Below base w w1) := Lib.hid (by rw [← hW]; exact below_put HB.out hg)
      have HK1 := Lib.hid (Kept.grown (P := fun k => k = g) HPut.out.2 rfl)
      obtain ⟨⟨zb, z1⟩, f1, hS2, hG2, _⟩ := putV HPut.out.1 i hlt 1 (by decide) (q + 1) _ rfl
      rw [Hget.out, if_neg (by decide), if_pos rfl] at hS2
      simp only [List.set_set] at hS2
      have HPut2 := Lib.hid (And.intro hS2 hG2)
      clear hW z0 f0 hS2 hG2 HPut
      go_upto_region 8 with fail
      generalize hW : World.setCell w1 _ _ = w2
      rw [show q + 1 + 1 = q + 2 from by omega]
      rw [hW] at HPut2
      have HB2 : Hid (Below base w w2) := Lib.hid (by rw [← hW]; exact below_put HB1.out hg)
      have HK2 := Lib.hid (Kept.tr HK1.out (Kept.grown (P := fun k => k = g) HPut2.out.2 rfl))
      obtain ⟨⟨zc, z2⟩, f2, hS3, hG3, _⟩ := putV HPut2.out.1 i hlt 2 (by decide) (q + 2) _ rfl
      rw [Hget.out, if_neg (by decide), if_neg (by decide)] at hS3
      simp only [List.set_set] at hS3
      have HPut3 := Lib.hid (And.intro hS3 hG3)
      clear hW z1 f1 hS3 hG3 HPut2
      go_upto_region 10 with fail
      generalize hW : World.setCell w2 _ _ = w3
      rw [show q + 2 + 1 = q + 3 from by omega]
      rw [hW] at HPut3
      have HB3 : Hid (Below base w w3) := Lib.hid (by rw [← hW]; exact below_put HB2.out hg)
      have HK3 := Lib.hid (Kept.tr HK2.out (Kept.grown (P := fun k => k = g) HPut3.out.2 rfl))
      have HD3 := Lib.hid (deep_put HT.out.2 HX.out HK3.out hlen hg0 q (q + 1) (q + 2))
      have y2 := cell3 HPut3.out.1 i hlt
      rw [Hget.out] at y2
      have ht3 := HD3.out.1 _ (List.getElem_mem (show i < (L.set i (⟨q, q + 1, q + 2, p.1.f3⟩, p.2)).length by rw [List.length_set]; exact hlen))
      rw [List.getElem_set_self] at ht3
      have HC2 := Lib.hid (markX_c base w3 p.2 p.1.f3 (q + 3) ht3.1 ht3.2 (by omega) (by omega) (by omega))
      have HSt := Lib.hid (fun (w4 : World) (ht : Txt w4 p.2 (upB (q + 3) p.1.f3.length)) (hk : Kept w3 w4 (Own p.2)) => mark_step hlen HPut3.out.1 HD3.out ht hk)
      obtain ⟨Au, cu, eu, _⟩ := ht3.1.reads
      dsimp only at y2 eu
      rw [eu] at y2
      rw [show p.2 = _ from eu] at HC2
      obtain ⟨m2, hm2⟩ : ∃ m : Nat, m = p.1.f3.length := ⟨_, rfl⟩
      rw [← hm2] at HC2 HE y2
      have HM2 := Lib.hid hm2
      have HEu := Lib.hid eu
      have hm21 : m2 ≤ 6000 := by omega
      clear ht3 hm2 hW z2 f2 hcm HPut3 hsl eu
      go_wp2_with (go_at_call 9; refine HC2.out.mono ?_; rintro e w4 ⟨rfl, h2, h3, h4⟩; rw [← HM2.out] at HEu; have HS4 := Lib.hid (HSt.out w4 (by rw [← HM2.out, HEu.out]; exact h2) (by rw [HEu.out]; exact h4)); have HB4 : Hid (Below base w w4) := Lib.hid ⟨h3.os.trans HB3.out.os, h3.tape.trans HB3.out.tape, h3.output.trans HB3.out.output, Nat.le_trans HB3.out.size h3.size, fun j hj => (h3.block j hj).trans (HB3.out.block j hj)⟩; clear h2 h3 h4)
      rw [HPs.out] at HS4
      exact ⟨⟨i + 1, q + 3 + m2, by go_num, rfl, hlt, HE, HS4, HB4⟩, by simp [intOf]; omega⟩
    · obtain rfl : i = n := by omega
      go_wp2
      go_ret
      refine ⟨(show Ending.returned (.int .i64 q) = _ from by rw [HQ.out, HN.out, List.take_length]), ?_, HB.out⟩
      have h := HT.out
      rw [show mpart mV1 cV k ps i = mk mV1 cV k ps from by rw [HN.out]; exact part_all k ps] at h
      exact h

end Go.Proofs.YtkkodbbgdndhmaaDoor.LxFnExactLex
