/- The built-in copy as one step of a region that draws its order, in the words of the printed contracts: into a row of the call's own, from numbers that are read. -/
import Derived.Test.YtjnllkhchjhihaaWMore
import Derived.Laws.CopyOwn
import Derived.Deep.RegionLaw
namespace Go.Proofs.Ytjnllkhchjhihaa.CopyLaw
open Go.RowKit Go.Proofs.YtjnllkhchjhihaaW.PrintWords

theorem splice_map {α β : Type} (f : α → β) (L : List α) (off : Nat) (cs : List α) : splice (L.map f) off (cs.map f) = (splice L off cs).map f := by
  simp [splice, List.map_append, List.map_take, List.map_drop]

theorem grown_refl (w : World) (row : Option Nat) : w.grownBy w row := ⟨rfl, rfl, rfl, Nat.le_refl _, fun _ _ _ => rfl⟩

theorem copy_step {P : Program} {ops : Array Oper} {o : Oper} {a : Act} {w : World} {K : Act → World → Prop} {Q : Exit → Act → World → Prop} {E : Prop} (hgd : o.guard = none) (d s : Operand) (T : TypeId)
    (ho : o.op = .call { callee := .builtin .copy, args := #[d, s], argTypes := #[T, T] }) (e : TypeId) (hu : P.underlying T = some (.slice e)) (hsz : (P.info? e).map (·.size) = some 1)
    (k : IntKind) (base : Nat) (v : Value) (xs ys : List Int) (HR : (Kd.int k).R e w base (fun _ => True) v xs) (off : Nat)
    (dp sp : Option Addr) (dLen dCap sLen sCap : Nat) (hd : a.eval d = .slice dp dLen dCap) (hs : a.eval s = .slice sp sLen sCap)
    (hn : ys.length = Nat.min sLen dLen)
    (hpos : 0 < ys.length → (∀ g, v.ownBlock = some g → dp = some ⟨g, off, none⟩) ∧ ∃ ad, sp = some ad ∧ ∀ j y, ys[j]? = some y → w.cell? (ad.add j) = some (.int k y))
    (hfit : off + ys.length ≤ xs.length)
    (h : ∀ w', (Kd.int k).R e w' base (fun _ => True) v (splice xs off ys) → w.grownBy w' v.ownBlock → K (a.put o.dst (goInt ys.length)) w') :
    if Region.wanted o (yielded ops a.tmps) = true then Oper.wp P o a w K Q else E := by
  have hw : Region.wanted o (yielded ops a.tmps) = true := by simp [Region.wanted, hgd]
  rw [if_pos hw]
  by_cases h0 : ys.length = 0
  · obtain rfl : ys = [] := List.eq_nil_of_length_eq_zero h0
    have hrun := run_copy_none (P := P) w T T o.type e dp sp dLen dCap sLen sCap hu hsz (by simpa using hn.symm)
    unfold Oper.wp
    simp [execOp, ho, resolve, invoke, builtin, hd, hs, hrun, Result.andThen]
    exact h w (by simpa [splice] using HR) (grown_refl _ _)
  · have own := Kd.own_of_R HR
    obtain ⟨hl, hn0 | ⟨g, cap, cur, rfl, hb, hh, hle, hm, hc, htk⟩⟩ := own
    · omega
    · obtain ⟨hdp, ad, rfl, hsrc⟩ := hpos (by omega)
      obtain rfl := hdp g rfl
      have hrun := run_copy_row (P := P) w T T o.type e g off dLen dCap ad sLen sCap cur e (encs (Value.int k) ys) hu hsz hh (by rw [encs_length]; exact hn)
        (fun j u hu => by
          unfold encs at hu
          rw [List.getElem?_map] at hu
          obtain ⟨y, hy, rfl⟩ := Option.map_eq_some_iff.1 hu
          exact hsrc j y hy) (by rw [encs_length]; omega)
        (fun u hu => by
          unfold encs at hu
          obtain ⟨y, _, rfl⟩ := List.mem_map.1 hu
          rfl)
      unfold Oper.wp
      simp [execOp, ho, resolve, invoke, builtin, hd, hs, hrun, Result.andThen]
      rw [encs_length]
      have hlt : g < w.heap.size := (Array.getElem?_eq_some_iff.1 hh).1
      have hsl : (splice xs off ys).length = xs.length := length_splice _ _ _ hfit
      have hel := encs_length (enc := Value.int k) (xs := ys)
      refine h _ ?_ ⟨rfl, rfl, rfl, by simp [World.setRow], fun i hi hne => setRow_other w g i _ (fun e => hne (by rw [e]; rfl))⟩
      refine Kd.R_of_own ?_ (fun _ _ => trivial)
      refine ⟨by rw [encs_length, Nat.mul_one], .inr ⟨g, cap, _, by rw [hsl], hb, setRow_heap w g _ _ _ _ hh, by omega, hm, ?_, ?_⟩⟩
      · simp; omega
      · rw [hsl, Nat.mul_one]
        rw [Nat.mul_one] at htk
        show List.take xs.length (cur.toList.take off ++ (encs (Value.int k) ys ++ cur.toList.drop (off + ys.length))) = encs (Value.int k) (splice xs off ys)
        have e1 : encs (Value.int k) (splice xs off ys) = splice (encs (Value.int k) xs) off (encs (Value.int k) ys) := (splice_map _ _ _ _).symm
        rw [e1, ← htk]
        have hcl : xs.length ≤ cur.toList.length := by simp; omega
        unfold splice
        rw [encs_length]
        rw [List.take_append, List.take_append, List.take_of_length_le (l := cur.toList.take off) (by simp; omega), List.take_of_length_le (l := encs (Value.int k) ys) (by simp; omega)]
        congr 1
        · rw [List.take_take, Nat.min_eq_left (by omega)]
        · congr 1
          rw [List.drop_take]
          congr 1
          simp
          omega

theorem wrap_len {l : List Int} {a : Int} (h : l.length < 17592186044416) (h0 : 0 ≤ a) (h1 : a ≤ (l.length : Int)) : wrap64 ((l.length : Int) - a) = (l.length : Int) - a := by
  unfold wrap64; omega

theorem own_shape {k : IntKind} {e : Nat} {w : World} {base : Nat} {ok : Nat → Prop} {A : Option Addr} {n c : Nat} {xs : List Int} (h : (Kd.int k).R e w base ok (.slice A n c) xs) :
    (xs.length : Int) ≤ (c : Int) ∧ ∀ g, (Value.slice A n c).ownBlock = some g → A = some ⟨g, 0, none⟩ := by
  obtain ⟨hl, hn0 | ⟨g, cap, cur, he, hb, hh, hle, hm, hc, htk⟩⟩ := Kd.own_of_R h
  · obtain ⟨e1, e2⟩ := hn0
    cases e1
    refine ⟨by omega, fun g hg => by simp [Value.ownBlock] at hg⟩
  · cases he
    exact ⟨by omega, fun g' hg => by simp [Value.ownBlock] at hg; rw [hg]⟩

theorem cut_run {P : Program} {t : TypeId} (ht : P.underlying t = some (.slice (P.elem t))) (hsz : ∀ w, (sizeOf (P.elem t)).run P w = .ok 1 w) (A : Option Addr) (n c : Nat) (l k : Int) (h0 : 0 ≤ l) (hk : 0 ≤ k) (h2 : l + k ≤ (c : Int)) :
    ∃ dp : Option Addr, (∀ w, (Instr.slice t (.slice A n c) (some (.int .i64 l)) (some (.int .i64 (l + k))) none).run P w = .ok (.slice dp k.toNat (c - l.toNat)) w) ∧ (0 < k → ∀ ad, A = some ad → dp = some (ad.add l.toNat)) := by
  refine ⟨if c = l.toNat then A else A.map (·.add l.toNat), fun w => ?_, fun hp ad ha => ?_⟩
  · rw [run_slice_lh w t A n c ht .i64 .i64 l (l + k) h0 (by omega) h2, hsz]
    have e : (l + k).toNat - l.toNat = k.toNat := by omega
    simp only [Result.andThen, sliced, Nat.mul_one, e]
  · rw [if_neg (by omega), ha]; rfl

theorem add_add (a : Addr) (i j : Nat) : (a.add i).add j = a.add (i + j) := by
  unfold Addr.add
  by_cases hi : i = 0
  · subst hi; simp
  · by_cases hj : j = 0
    · subst hj; simp [hi]
    · simp [hi, hj, Nat.add_assoc]

theorem src_cut {W : World} {A : Option Addr} {n : Nat} {xs ys : List Int} {l k : Int} (h : Kd.C (Kd.int .i64) W A n xs) (hys : ys = List.take k.toNat (List.drop l.toNat xs)) {sp : Option Addr}
    (hsp : ∀ ad, A = some ad → sp = some (ad.add l.toNat)) (hn : 0 < n) : ∃ ad, sp = some ad ∧ ∀ j y, ys[j]? = some y → W.cell? (ad.add j) = some (.int .i64 y) := by
  obtain ⟨ad, ha, hc⟩ := h.2.2 hn
  refine ⟨_, hsp ad ha, fun j y hy => ?_⟩
  have hx : xs[l.toNat + j]? = some y := by
    rw [hys, List.getElem?_take] at hy
    by_cases c : j < k.toNat
    · rw [if_pos c, List.getElem?_drop] at hy
      exact hy
    · rw [if_neg c] at hy; cases hy
  obtain ⟨c, hl, hk, hu⟩ := hc _ _ hx
  have hk' : c = [Value.int .i64 y] := hk
  subst hk'
  have := hu 0 (.int .i64 y) rfl
  have e : (Kd.int .i64).sz = 1 := rfl
  rw [e, Nat.mul_one, Nat.add_zero] at this
  rw [add_add]; exact this

theorem own_cut {A : Option Addr} {n c g : Nat} {l : Int} {dp : Option Addr} (hA : ∀ g, (Value.slice A n c).ownBlock = some g → A = some ⟨g, 0, none⟩) (hdp : ∀ ad, A = some ad → dp = some (ad.add l.toNat))
    (hg : (Value.slice A n c).ownBlock = some g) : dp = some ⟨g, l.toNat, none⟩ := by
  rw [hdp _ (hA g hg), add_plain]

end Go.Proofs.Ytjnllkhchjhihaa.CopyLaw
