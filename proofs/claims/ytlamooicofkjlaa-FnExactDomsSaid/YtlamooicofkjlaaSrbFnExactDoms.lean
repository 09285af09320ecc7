import Derived.Test.YtlamooicofkjlaaQFnExactDomsx4
import Derived.Test.YtlamooicofkjlaaNearP
import Derived.Test.YtlamooicofkjlaaSraFnExactDoms
/- Plain law: spec.l6doms tells the nearest other block on all ways. -/
namespace Go.Proofs.Ytlamooicofkjlaa.SrFnExactDoms
open Go.RowKit Go.Proofs.YtlamooicofkjlaaW.PrintWords Go.Proofs.Ytlamooicofkjlaa.Aid Go.Proofs.Ytlamooicofkjlaa.QFnExactDoms Go.Proofs.Ytlamooicofkjlaa.DomP Go.Proofs.Ytlamooicofkjlaa.DfsP Go.Proofs.Ytlamooicofkjlaa.BfsP Go.Proofs.Ytlamooicofkjlaa.NearP
set_option linter.unusedVariables false
set_option linter.unusedSectionVars false

/-- A list by what it holds at each place. -/
def tab (n : Nat) (f : Nat → Int) : List Int := (List.range n).map f
theorem tab_len (n : Nat) (f : Nat → Int) : (tab n f).length = n := by simp [tab]
theorem tab_at (n : Nat) (f : Nat → Int) (i : Nat) (h : i < n) : rd (tab n f) (i : Int) = f i := by
  rw [rd_eq _ _ (by rw [tab_len]; exact h)]; simp [tab]
def put (f : Nat → Int) (i : Nat) (x : Int) : Nat → Int := fun j => if j = i then x else f j
theorem tab_set (n : Nat) (f : Nat → Int) (i : Nat) (x : Int) : (tab n f).set i x = tab n (put f i x) := by
  unfold tab put
  apply List.ext_getElem (by simp)
  intro j h1 h2
  simp only [List.getElem_set, List.getElem_map, List.getElem_range]
  by_cases e : i = j
  · subst e; simp
  · rw [if_neg e, if_neg (fun h => e h.symm)]
theorem tab_rep (n : Nat) (x : Int) : List.replicate n x = tab n (fun _ => x) := by
  unfold tab
  apply List.ext_getElem (by simp)
  intro j h1 h2
  simp
theorem put_at (f : Nat → Int) (i : Nat) (x : Int) : put f i x i = x := if_pos rfl
theorem put_put (f : Nat → Int) (i : Nat) (x y : Int) : put (put f i x) i y = put f i y := by
  funext j; unfold put; split <;> rfl
theorem put_self (f : Nat → Int) (i : Nat) : put f i (f i) = f := by
  funext j; unfold put; split
  · next h => rw [h]
  · rfl
theorem tab_ext {n : Nat} {f g : Nat → Int} (h : ∀ i, i < n → f i = g i) : tab n f = tab n g := by
  unfold tab
  exact List.map_congr_left (fun i hi => h i (List.mem_range.1 hi))

/-- d is another block on all ways to b, as the lists tell. -/
def S (n : Nat) (all : List Bool) (cut : List (List Bool)) (b d : Nat) : Bool := decide (d < n) && (sn all b && (!decide (d = b) && !sn (cut.getD d []) b))
theorem rdOf_sn (s : List Bool) (v : Nat) : rdOf false s (v : Int) = sn s v := by
  unfold rdOf sn; rw [Int.toNat_natCast]
theorem rdL (x : List (List Bool)) (d : Nat) : rd_L13 x (d : Int) = x.getD d [] := by
  unfold rd_L13; rw [Int.toNat_natCast]
/-- The first of those with the greatest count. -/
def best (p : Nat → Bool) (c : Nat → Nat) : Nat → Int
  | 0 => -1
  | d + 1 => if p d = true ∧ (best p c d < 0 ∨ c d > c (best p c d).toNat) then (d : Int) else best p c d
theorem best_range (p : Nat → Bool) (c : Nat → Nat) : ∀ n, -1 ≤ best p c n ∧ best p c n < n := by
  intro n
  induction n with
  | zero => exact ⟨by unfold best; omega, by unfold best; omega⟩
  | succ n ih => unfold best; split <;> omega
theorem best_none {p : Nat → Bool} {c : Nat → Nat} (h : ∀ d, p d = false) : ∀ n, best p c n = -1 := by
  intro n
  induction n with
  | zero => rfl
  | succ n ih => unfold best; rw [h n, if_neg (by simp), ih]
theorem best_is {p : Nat → Bool} {c : Nat → Nat} {t : Nat} (ht : p t = true) (hc : ∀ d, p d = true → d ≠ t → c d < c t) : ∀ n, (t < n → best p c n = t) ∧ (n ≤ t → best p c n < 0 ∨ c (best p c n).toNat < c t) := by
  intro n
  induction n with
  | zero => exact ⟨fun h => by omega, fun _ => .inl (by unfold best; omega)⟩
  | succ n ih =>
    refine ⟨fun h => ?_, fun h => ?_⟩
    · unfold best
      by_cases e : t = n
      · subst e
        rw [if_pos ⟨ht, (ih.2 (Nat.le_refl _))⟩]
      · have hb := ih.1 (by omega)
        rw [hb, Int.toNat_natCast, if_neg]
        rintro ⟨h1, h2 | h2⟩
        · omega
        · have := hc n h1 (fun e' => e e'.symm); omega
    · unfold best
      have hi := ih.2 (by omega)
      split
      · next h1 => right; rw [Int.toNat_natCast]; exact hc n h1.1 (by omega)
      · exact hi

section
variable (n : Nat) (hn : n ≤ 400) (all : List Bool) (cut : List (List Bool)) (hall : all.length = n) (hcl : cut.length = n) (hcut : ∀ d, d < n → (cut.getD d []).length = n) (P : List Int → Prop)
include hn hall hcl hcut
theorem count_in (x4 : List Int) (b : Nat) (hb : b < n) (f : Nat → Int) (H : Tells (fun k => spec_l6doms.l1 k n x4 (tab n (put f b (cnt (S n all cut b) n))) all cut ((b + 1 : Nat) : Int)) P) :
    ∀ (g d : Nat), n - d = g → d ≤ n → Tells (fun k => spec_l6doms.l2 k n x4 (tab n (put f b (cnt (S n all cut b) d))) all cut b d) P := by
  intro g
  induction g with
  | zero =>
    intro d hg hd
    obtain rfl : d = n := by omega
    refine Tells.step (fun m => by rw [spec_l6doms.l2]) (Tells.neg (by omega) ?_)
    rw [wrap64_id (x := (b : Int) + 1) (by omega) (by omega)]
    exact H
  | succ g ih =>
    intro d hg hd
    have hd2 : d < n := by omega
    have next : wrap64 ((d : Int) + 1) = ((d + 1 : Nat) : Int) := by rw [wrap64_id (by omega) (by omega)]; rfl
    have I := ih (d + 1) (by omega) (by omega)
    have skip : S n all cut b d = false → cnt (S n all cut b) (d + 1) = cnt (S n all cut b) d := fun h => by rw [cnt, h]; rfl
    have hd3 : decide (d < n) = true := decide_eq_true hd2
    refine Tells.step (fun m => by rw [spec_l6doms.l2]) (Tells.pos (by omega) (Tells.pos (by omega) (Tells.pos (by omega) ?_)))
    rw [next]
    refine Tells.ite (fun h => ?_) (fun h => ?_)
    · rw [rdOf_sn] at h
      refine Tells.ite (fun e => ?_) (fun e => ?_)
      · have e : d = b := by omega
        rw [skip (by unfold S; simp [e])] at I; exact I
      · refine Tells.pos (by omega) (Tells.pos (by omega) ?_)
        rw [rdL, rdOf_sn]
        refine Tells.pos (by rw [hcut d hd2]; omega) (Tells.ite (fun h2 => ?_) (fun h2 => ?_))
        · rw [skip (by unfold S; rw [h2]; simp)] at I; exact I
        · have e2 : cnt (S n all cut b) (d + 1) = cnt (S n all cut b) d + 1 := by
            have hS : S n all cut b d = true := by unfold S; rw [hd3, h, Bool.eq_false_iff.2 h2]; simp; omega
            rw [cnt, hS]; rfl
          have hcb := cnt_bound (S n all cut b) d
          refine Tells.pos (by rw [tab_len]; omega) ?_
          rw [Int.toNat_natCast, tab_at n _ b hb, put_at, tab_set, put_put, wrap64_id (by omega) (by omega)]
          rw [e2] at I; exact I
    · rw [rdOf_sn] at h
      rw [skip (by unfold S; rw [Bool.eq_false_iff.2 h]; simp)] at I; exact I
theorem count_out (x4 : List Int) (H : Tells (fun k => spec_l6doms.l3 k n x4 (tab n (fun j => (cnt (S n all cut j) n : Nat))) all cut 0) P) :
    ∀ (g b : Nat), n - b = g → b ≤ n → Tells (fun k => spec_l6doms.l1 k n x4 (tab n (fun j => if j < b then (cnt (S n all cut j) n : Nat) else 0)) all cut b) P := by
  intro g
  induction g with
  | zero =>
    intro b hg hb
    obtain rfl : b = n := by omega
    refine Tells.step (fun m => by rw [spec_l6doms.l1]) (Tells.neg (by omega) ?_)
    rw [tab_ext (g := fun j => (cnt (S b all cut j) b : Nat)) (fun i hi => if_pos hi)]
    exact H
  | succ g ih =>
    intro b hg hb
    refine Tells.step (fun m => by rw [spec_l6doms.l1]) (Tells.pos (by omega) ?_)
    have h := count_in n hn all cut hall hcl hcut P x4 b (by omega) (fun j => if j < b then (cnt (S n all cut j) n : Nat) else 0) ?_ n 0 (by omega) (by omega)
    · have e : put (fun j => if j < b then ((cnt (S n all cut j) n : Nat) : Int) else 0) b (cnt (S n all cut b) 0 : Nat) = (fun j => if j < b then ((cnt (S n all cut j) n : Nat) : Int) else 0) := by
        funext j; unfold put
        by_cases e : j = b
        · subst e; simp [cnt]
        · rw [if_neg e]
      rw [e] at h; exact h
    · have e : put (fun j => if j < b then ((cnt (S n all cut j) n : Nat) : Int) else 0) b (cnt (S n all cut b) n : Nat) = (fun j => if j < b + 1 then ((cnt (S n all cut j) n : Nat) : Int) else 0) := by
        funext j; unfold put
        by_cases e : j = b
        · subst e; simp
        · rw [if_neg e]
          show (if j < b then _ else _) = _
          by_cases h : j < b
          · rw [if_pos h, if_pos (by omega)]
          · rw [if_neg h, if_neg (by omega)]
      rw [e]; exact ih (b + 1) (by omega) (by omega)
variable (c : Nat → Nat) (hc : ∀ j, c j ≤ 400)
include hc
theorem best_in (b : Nat) (hb : b < n) (f : Nat → Int) (H : Tells (fun k => spec_l6doms.l3 k n (tab n (put f b (best (S n all cut b) c n))) (tab n (fun j => (c j : Nat))) all cut ((b + 1 : Nat) : Int)) P) :
    ∀ (g d : Nat), n - d = g → d ≤ n → Tells (fun k => spec_l6doms.l4 k n (tab n (put f b (best (S n all cut b) c d))) (tab n (fun j => (c j : Nat))) all cut b d) P := by
  intro g
  induction g with
  | zero =>
    intro d hg hd
    obtain rfl : d = n := by omega
    refine Tells.step (fun m => by rw [spec_l6doms.l4]) (Tells.neg (by omega) ?_)
    rw [wrap64_id (x := (b : Int) + 1) (by omega) (by omega)]
    exact H
  | succ g ih =>
    intro d hg hd
    have hd2 : d < n := by omega
    have next : wrap64 ((d : Int) + 1) = ((d + 1 : Nat) : Int) := by rw [wrap64_id (by omega) (by omega)]; rfl
    have I := ih (d + 1) (by omega) (by omega)
    have skip : S n all cut b d = false → best (S n all cut b) c (d + 1) = best (S n all cut b) c d := fun h => by rw [best, h, if_neg (by simp)]
    have hd3 : decide (d < n) = true := decide_eq_true hd2
    obtain ⟨r1, r2⟩ := best_range (S n all cut b) c d
    refine Tells.step (fun m => by rw [spec_l6doms.l4]) (Tells.pos (by omega) (Tells.pos (by omega) (Tells.pos (by omega) ?_)))
    rw [next]
    refine Tells.ite (fun h => ?_) (fun h => ?_)
    · rw [rdOf_sn] at h
      refine Tells.ite (fun e => ?_) (fun e => ?_)
      · have e : d = b := by omega
        rw [skip (by unfold S; simp [e])] at I; exact I
      · refine Tells.pos (by omega) (Tells.pos (by omega) ?_)
        rw [rdL, rdOf_sn]
        refine Tells.pos (by rw [hcut d hd2]; omega) (Tells.ite (fun h2 => ?_) (fun h2 => ?_))
        · rw [skip (by unfold S; rw [h2]; simp)] at I; exact I
        · have hS : S n all cut b d = true := by unfold S; rw [hd3, h, Bool.eq_false_iff.2 h2]; simp; omega
          refine Tells.pos (by rw [tab_len]; omega) ?_
          rw [Int.toNat_natCast, tab_at n _ b hb, put_at, tab_set, put_put, tab_at n _ d hd2]
          rw [best] at I
          refine Tells.ite (fun h3 => ?_) (fun h3 => ?_)
          · rw [if_pos ⟨hS, .inl h3⟩] at I; exact I
          · have hx : best (S n all cut b) c d = ((best (S n all cut b) c d).toNat : Int) := (Int.toNat_of_nonneg (by omega)).symm
            have hr : rd (tab n (fun j => (c j : Nat))) (best (S n all cut b) c d) = (c (best (S n all cut b) c d).toNat : Nat) := by
              generalize best (S n all cut b) c d = z at hx r2 ⊢
              generalize z.toNat = q at hx ⊢
              subst hx
              rw [tab_at n _ q (by omega)]
            refine Tells.pos (by rw [tab_len]; omega) (Tells.pos (by omega) (Tells.pos (by rw [tab_len]; omega) ?_))
            rw [hr]
            refine Tells.ite (fun h4 => ?_) (fun h4 => ?_)
            · rw [if_pos ⟨hS, .inr (by omega)⟩] at I; exact I
            · rw [if_neg (by rintro ⟨_, h5 | h5⟩ <;> omega)] at I; exact I
    · rw [rdOf_sn] at h
      rw [skip (by unfold S; rw [Bool.eq_false_iff.2 h]; simp)] at I; exact I
theorem best_out (H : P (tab n (fun j => best (S n all cut j) c n))) :
    ∀ (g b : Nat), n - b = g → b ≤ n → Tells (fun k => spec_l6doms.l3 k n (tab n (fun j => if j < b then best (S n all cut j) c n else -1)) (tab n (fun j => (c j : Nat))) all cut b) P := by
  intro g
  induction g with
  | zero =>
    intro b hg hb
    obtain rfl : b = n := by omega
    refine Tells.step (fun m => by rw [spec_l6doms.l3]) (Tells.neg (by omega) (Tells.now ?_))
    rw [tab_ext (g := fun j => best (S b all cut j) c b) (fun i hi => if_pos hi)]
    exact H
  | succ g ih =>
    intro b hg hb
    refine Tells.step (fun m => by rw [spec_l6doms.l3]) (Tells.pos (by omega) ?_)
    have h := best_in n hn all cut hall hcl hcut P c hc b (by omega) (fun j => if j < b then best (S n all cut j) c n else -1) ?_ n 0 (by omega) (by omega)
    · have e : put (fun j => if j < b then best (S n all cut j) c n else -1) b (best (S n all cut b) c 0) = (fun j => if j < b then best (S n all cut j) c n else -1) := by
        funext j; unfold put
        by_cases e : j = b
        · subst e; simp [best]
        · rw [if_neg e]
      rw [e] at h; exact h
    · have e : put (fun j => if j < b then best (S n all cut j) c n else -1) b (best (S n all cut b) c n) = (fun j => if j < b + 1 then best (S n all cut j) c n else -1) := by
        funext j; unfold put
        by_cases e : j = b
        · subst e; simp
        · rw [if_neg e]
          show (if j < b then _ else _) = _
          by_cases h : j < b
          · rw [if_pos h, if_pos (by omega)]
          · rw [if_neg h, if_neg (by omega)]
      rw [e]; exact ih (b + 1) (by omega) (by omega)
end
/-- What the nearest blocks are, as a list. -/
structure IsDoms (E : Nat → List Nat) (n : Nat) (r : List Int) : Prop where
  len : r.length = n
  out : ∀ v, v < n → (v = 0 ∨ ¬ Rc E v) → rd r (v : Int) = -1
  at_ : ∀ v t, v < n → t < n → Near E v t → rd r (v : Int) = t
section
variable (a : List S33) (b c : Int) (d : List S77) (B : List S70) (hB : EdgesIn B)
include hB
theorem cuts_out (all : List Bool) (P : List Int → Prop)
    (H : ∀ cut : List (List Bool), cut.length = B.length → (∀ q, q < B.length → (cut.getD q []).length = B.length ∧ ∀ v, v < B.length → (sn (cut.getD q []) v = true ↔ Ro (E B) (q : Int) v)) → Tells (fun k => spec_l6doms.l1 k B.length (tab B.length (fun _ => -1)) (tab B.length (fun _ => 0)) all cut 0) P) :
    ∀ (g i : Nat) (cut : List (List Bool)), B.length - i = g → i ≤ B.length → cut.length = i → (∀ q, q < i → (cut.getD q []).length = B.length ∧ ∀ v, v < B.length → (sn (cut.getD q []) v = true ↔ Ro (E B) (q : Int) v)) →
      Tells (fun k => spec_l6doms.l0 k B.length (tab B.length (fun j => if j < i then -1 else 0)) (tab B.length (fun _ => 0)) all cut i a b c d B) P := by
  have hB1 := hB.le
  intro g
  induction g with
  | zero =>
    intro i cut hg hi hc hq
    obtain rfl : i = B.length := by omega
    refine Tells.step (fun m => by rw [spec_l6doms.l0]) (Tells.neg (by omega) ?_)
    rw [tab_ext (g := fun j => -1) (fun i hi => if_pos hi)]
    exact H cut hc hq
  | succ g ih =>
    intro i cut hg hi hc hq
    refine Tells.step (fun m => by rw [spec_l6doms.l0]) (Tells.pos (by omega) (Tells.pos (by omega) (Tells.pos (by rw [tab_len]; omega) ?_)))
    refine Tells.bind (reach a b c d B i hB) fun t ht => ?_
    refine Tells.pos (by omega) ?_
    rw [wrap64_id (x := (i : Int) + 1) (by omega) (by omega), Int.toNat_natCast, tab_set]
    have e : put (fun j => if j < i then -1 else 0) i (-1) = (fun j => if j < i + 1 then -1 else 0) := by
      funext j; unfold put
      by_cases e : j = i
      · subst e; simp
      · rw [if_neg e]
        show (if j < i then _ else _) = _
        by_cases h : j < i
        · rw [if_pos h, if_pos (by omega)]
        · rw [if_neg h, if_neg (by omega)]
    rw [e]
    refine ih (i + 1) (cut ++ [t]) (by omega) (by omega) (by simp [hc]) (fun q hq2 => ?_)
    rw [List.getD_eq_getElem?_getD]
    by_cases e : q = i
    · subst e
      rw [List.getElem?_append_right (by omega)]
      simp only [hc, Nat.sub_self, List.getElem?_cons_zero, Option.getD_some]
      exact ht
    · rw [List.getElem?_append_left (by omega), ← List.getD_eq_getElem?_getD]
      exact hq q (by omega)
theorem doms : Tells (fun k => spec_l6doms.f k a b c d B) (IsDoms (E B) B.length) := by
  have hB1 := hB.le
  unfold spec_l6doms.f
  refine Tells.pos (by omega) (Tells.pos (by omega) (Tells.bind (reach a b c d B (-1) hB) fun all hall => ?_))
  rw [Int.toNat_natCast, tab_rep]
  have h0 := cuts_out a b c d B hB all (IsDoms (E B) B.length) ?_ B.length 0 [] (by omega) (by omega) rfl (fun q hq => by omega)
  · rw [tab_ext (g := fun _ => 0) (fun i hi => if_neg (by omega))] at h0
    exact h0
  intro cut hcl hcut
  have h1 := count_out B.length hB1 all cut hall.1 hcl (fun q hq => (hcut q hq).1) (IsDoms (E B) B.length) (tab B.length (fun _ => -1)) ?_ B.length 0 (by omega) (by omega)
  · rw [tab_ext (g := fun _ => 0) (fun i hi => if_neg (by omega))] at h1
    exact h1
  have h2 := best_out B.length hB1 all cut hall.1 hcl (fun q hq => (hcut q hq).1) (IsDoms (E B) B.length) (fun j => cnt (S B.length all cut j) B.length) (fun j => by have := cnt_bound (S B.length all cut j) B.length; omega) ?_ B.length 0 (by omega) (by omega)
  · rw [tab_ext (g := fun _ => -1) (fun i hi => if_neg (by omega))] at h2
    exact h2
  have hrc : ∀ v, Ro (E B) (-1) v ↔ Rc (E B) v := fun v => by
    refine ⟨Ro.rc, fun h => ?_⟩
    induction h with
    | root _ => exact .root (by omega)
    | step _ he _ ih => exact .step ih he (by omega)
  have hS : ∀ v, v < B.length → ∀ q, S B.length all cut v q = true ↔ q < B.length ∧ SD (E B) v q := by
    intro v hv q
    unfold S SD
    simp only [Bool.and_eq_true, decide_eq_true_eq, Bool.not_eq_true', decide_eq_false_iff_not]
    constructor
    · rintro ⟨h1, h2, h3, h4⟩
      refine ⟨h1, h3, (hrc v).1 ((hall.2 v hv).1 h2), fun h => ?_⟩
      rw [((hcut q h1).2 v hv).2 h] at h4; cases h4
    · rintro ⟨h1, h2, h3, h4⟩
      refine ⟨h1, (hall.2 v hv).2 ((hrc v).2 h3), h2, ?_⟩
      rw [Bool.eq_false_iff]
      exact fun h => h4 (((hcut q h1).2 v hv).1 h)
  refine ⟨tab_len _ _, fun v hv ho => ?_, fun v t hv ht N => ?_⟩
  · rw [tab_at _ _ v hv]
    refine best_none (fun q => ?_) _
    rw [Bool.eq_false_iff]
    intro h
    obtain ⟨h1, h2, h3, h4⟩ := (hS v hv q).1 h
    rcases ho with rfl | ho
    · exact h4 (.root (by omega))
    · exact ho h3
  · rw [tab_at _ _ v hv]
    refine (best_is ((hS v hv t).2 ⟨ht, N.sd⟩) (fun q hq hn => ?_) B.length).1 ht
    obtain ⟨h1, h2⟩ := (hS v hv q).1 hq
    obtain ⟨h3, h4⟩ := N.up q h2 hn
    refine cnt_lt (x := q) (fun e he => ?_) ((hS t ht q).2 ⟨h1, h3⟩) ?_ _ h1
    · obtain ⟨h5, h6⟩ := (hS q h1 e).1 he
      exact (hS t ht e).2 ⟨h5, h4 e h6⟩
    · rw [Bool.eq_false_iff]
      intro h
      exact ((hS q h1 q).1 h).2.1 rfl
end
end Go.Proofs.Ytlamooicofkjlaa.SrFnExactDoms
