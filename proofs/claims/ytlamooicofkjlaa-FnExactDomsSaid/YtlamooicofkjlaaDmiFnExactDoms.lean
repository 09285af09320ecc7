/- What (*impl.Fn).doms keeps in memory: ranks and the nearest so far; and where chains meet. -/
import Derived.Test.YtlamooicofkjlaaDmhFnExactDoms
import Derived.Test.YtlamooicofkjlaaSrbFnExactDoms
namespace Go.Proofs.Ytlamooicofkjlaa.DmFnExactDoms
open Go.RowKit Go.Proofs.Ytlamooicofkjlaa.QFnExactDoms Go.Proofs.YtlamooicofkjlaaW.PrintWords Go.Proofs.YtlamooicofkjlaaW.PrintLast Go.Proofs.YtlamooicofkjlaaW.PrintMore Go.Proofs.Ytlamooicofkjlaa.SrFnExactDoms Go.Proofs.Ytlamooicofkjlaa.DomP
open Go.Proofs.Ytlamooicofkjlaa.DfsP (Ord)
set_option linter.unusedVariables false

/-- Ranks (their header at g5) and the nearest (at g6), in memory of own behind w2. -/
structure DMem (w2 W : World) (n g5 g6 : Nat) (Aa : Option Addr) (ca : Nat) (Ab : Option Addr) (cb : Nat) (fr fo : Nat → Int) : Prop where
  h5 : W.heap[g5]? = some (.cells #[.slice Aa n ca] 30 (0, 0))
  h6 : W.heap[g6]? = some (.cells #[.slice Ab n cb] 30 (0, 0))
  ra : Kd.R (Kd.int .i64) 3 W w2.heap.size (fun k => some k ≠ (Value.slice Ab n cb).ownBlock) (.slice Aa n ca) (tab n fr)
  rb : Kd.R (Kd.int .i64) 3 W w2.heap.size (fun k => some k ≠ (Value.slice Aa n ca).ownBlock) (.slice Ab n cb) (tab n fo)
  hb : Below w2.heap.size w2 W
section
variable {w2 W W1 : World} {n g5 g6 : Nat} {Aa Ab : Option Addr} {ca cb : Nat} {fr fo : Nat → Int}
theorem DMem.keep (h : DMem w2 W n g5 g6 Aa ca Ab cb fr fo) (hb : Below W.heap.size W W1) : DMem w2 W1 n g5 g6 Aa ca Ab cb fr fo :=
  ⟨blk_below h.h5 hb, blk_below h.h6 hb, Kd.R_below h.ra hb, Kd.R_below h.rb hb, below_step h.hb hb h.hb.size⟩
theorem DMem.pa (h : DMem w2 W n g5 g6 Aa ca Ab cb fr fo) (hn : 0 < n) : ∃ g, Aa = some ⟨g, 0, none⟩ := by
  obtain ⟨g, c, e, _⟩ := Kd.R_form h.ra (by rw [tab_len]; exact hn)
  exact ⟨g, by injection e⟩
theorem DMem.pb (h : DMem w2 W n g5 g6 Aa ca Ab cb fr fo) (hn : 0 < n) : ∃ g, Ab = some ⟨g, 0, none⟩ := by
  obtain ⟨g, c, e, _⟩ := Kd.R_form h.rb (by rw [tab_len]; exact hn)
  exact ⟨g, by injection e⟩
theorem DMem.ca_ {g : Nat} (h : DMem w2 W n g5 g6 (some ⟨g, 0, none⟩) ca Ab cb fr fo) {i : Nat} (hi : i < n) : W.cell? ⟨g, i, none⟩ = some (.int .i64 (fr i)) ∧ W.frozen? ⟨g, i, none⟩ = false := by
  have hc := Kd.R_celln 0 h.ra (i : Int) (by omega) (by omega)
  have e : rdOf 0 (tab n fr) (i : Int) = fr i := tab_at n fr i hi
  rw [Int.toNat_natCast, e] at hc
  exact hc
theorem DMem.cb_ {g : Nat} (h : DMem w2 W n g5 g6 Aa ca (some ⟨g, 0, none⟩) cb fr fo) {i : Nat} (hi : i < n) : W.cell? ⟨g, i, none⟩ = some (.int .i64 (fo i)) ∧ W.frozen? ⟨g, i, none⟩ = false := by
  have hc := Kd.R_celln 0 h.rb (i : Int) (by omega) (by omega)
  have e : rdOf 0 (tab n fo) (i : Int) = fo i := tab_at n fo i hi
  rw [Int.toNat_natCast, e] at hc
  exact hc
theorem DMem.setR {g : Nat} (h : DMem w2 W n g5 g6 (some ⟨g, 0, none⟩) ca Ab cb fr fo) (i : Nat) (x : Int) (hW : W.setCell ⟨g, i, none⟩ (.int .i64 x) = W1) : DMem w2 W1 n g5 g6 (some ⟨g, 0, none⟩) ca Ab cb (put fr i x) fo := by
  subst hW
  have hp := Kd.R_putg h.ra (i : Int) x
  rw [Int.toNat_natCast, tab_set] at hp
  exact ⟨blk_grown h.h5 hp.2 (Kd.R_ne h.ra h.h5 (by decide)), blk_grown h.h6 hp.2 (Kd.R_ne h.ra h.h6 (by decide)), hp.1, Kd.R_grown h.rb hp.2 (fun _ hk => hk), below_set h.hb (Kd.R_base h.ra g rfl)⟩
theorem DMem.setO {g : Nat} (h : DMem w2 W n g5 g6 Aa ca (some ⟨g, 0, none⟩) cb fr fo) (i : Nat) (x : Int) (hW : W.setCell ⟨g, i, none⟩ (.int .i64 x) = W1) : DMem w2 W1 n g5 g6 Aa ca (some ⟨g, 0, none⟩) cb fr (put fo i x) := by
  subst hW
  have hp := Kd.R_putg h.rb (i : Int) x
  rw [Int.toNat_natCast, tab_set] at hp
  exact ⟨blk_grown h.h5 hp.2 (Kd.R_ne h.rb h.h5 (by decide)), blk_grown h.h6 hp.2 (Kd.R_ne h.rb h.h6 (by decide)), Kd.R_grown h.ra hp.2 (fun _ hk => hk), hp.1, below_set h.hb (Kd.R_base h.rb g rfl)⟩
theorem DMem.eq {fr' fo' : Nat → Int} (h : DMem w2 W n g5 g6 Aa ca Ab cb fr fo) (hr : ∀ i, i < n → fr i = fr' i) (ho : ∀ i, i < n → fo i = fo' i) : DMem w2 W n g5 g6 Aa ca Ab cb fr' fo' :=
  ⟨h.h5, h.h6, by rw [← tab_ext hr]; exact h.ra, by rw [← tab_ext ho]; exact h.rb, h.hb⟩
end

/-- The block at a place of the order. -/
abbrev at' (L : List Nat) (j : Nat) : Nat := L.getD j 0
/-- What the ranks tell. -/
structure Ranks (L : List Nat) (n : Nat) (fr : Nat → Int) : Prop where
  lt : ∀ j, j < L.length → at' L j < n
  rk : ∀ j, j < L.length → fr (at' L j) = (j : Int)
/-- What the nearest tell: the first P places are set. -/
structure Outs (L : List Nat) (n P : Nat) (o : Nat → Nat) (fo : Nat → Int) : Prop where
  le : P ≤ L.length
  at_ : ∀ j, j < P → o j < P ∧ fo (at' L j) = ((at' L (o j) : Nat) : Int)
  no : ∀ v, v < n → (∀ j, j < P → at' L j ≠ v) → fo v = -2

set_option maxHeartbeats 4000000 in
theorem meet_c (w2 : World) (n g5 g6 : Nat) (Aa : Option Addr) (ca : Nat) (Ab : Option Addr) (cb : Nat) (fr fo : Nat → Int) (L : List Nat) (P : Nat) (o : Nat → Nat) (i0 j0 : Nat) (w : World) (hD : DMem w2 w n g5 g6 Aa ca Ab cb fr fo) (hR : Ranks L n fr) (hO : Outs L n P o fo) (hT : Tree o P) (hi0 : i0 < P) (hj0 : j0 < P) (hL : L.length ≤ 1099511627776) :
    Calls Try.prog 41 #[.int .i64 (at' L i0 : Nat), .int .i64 (at' L j0 : Nat), .pointer (some ⟨g5, 0, none⟩), .pointer (some ⟨g6, 0, none⟩)] w (fun e w' => e = .returned (.int .i64 (at' L (meet o (i0 + j0 + 1) i0 j0) : Nat)) ∧ Below w.heap.size w w') := by
  have HD := Lib.hid hD
  have HR := Lib.hid hR
  have HO := Lib.hid hO
  have HT := Lib.hid hT
  have hPL := hO.le
  have hn : 0 < n := by have := hR.lt i0 (by omega); omega
  obtain ⟨ga, rfl⟩ := hD.pa hn
  obtain ⟨gb, rfl⟩ := hD.pb hn
  clear hD hR hO hT
  go_enter Try.func41, Try.ntmps41
  go_wp2
  go_loopg [0, 1] (i0 + j0 + 1) (fun kq v0 v1 wr => ∃ i j : Nat, v0 = .int .i64 (at' L i : Nat) ∧ v1 = .int .i64 (at' L j : Nat) ∧ i < P ∧ j < P ∧ i + j < kq ∧ Hid (meet o kq i j = meet o (i0 + j0 + 1) i0 j0) ∧ Hid (Below w.heap.size w wr))
  case atStart => exact ⟨i0, j0, rfl, rfl, hi0, hj0, by omega, Lib.hid rfl, Lib.hid (Below.refl _ _)⟩
  case round =>
    obtain ⟨i, j, rfl, rfl, hi, hj, hk, HM, HB⟩ := hrel
    have HDr := Lib.hid (HD.out.keep HB.out)
    have hai := HR.out.lt i (by omega)
    have haj := HR.out.lt j (by omega)
    have hri := HR.out.rk i (by omega)
    have hrj := HR.out.rk j (by omega)
    obtain ⟨k', rfl⟩ : ∃ k', gk = k' + 1 := ⟨gk - 1, by omega⟩
    by_cases hij : i = j
    · subst hij
      have hm := HM.out
      rw [meet, if_pos rfl] at hm
      have Hm := Lib.hid hm
      clear hm hri hrj
      go_wp2
      go_ret
      exact ⟨by rw [← Hm.out]; rfl, HB.out⟩
    · have hne : at' L i ≠ at' L j := fun e => hij (by rw [e] at hri; omega)
      have d1 : (((at' L i : Nat) : Int) != ((at' L j : Nat) : Int)) = true := bne_iff_ne.2 (by omega)
      have y5 := (blk_cell HDr.out.h5 0).trans rfl
      have y6 := (blk_cell HDr.out.h6 0).trans rfl
      have xi := (HDr.out.ca_ hai).1
      have xj := (HDr.out.ca_ haj).1
      have zi := (HDr.out.cb_ hai).1
      have zj := (HDr.out.cb_ haj).1
      obtain ⟨hoi, hfi⟩ := HO.out.at_ i hi
      obtain ⟨hoj, hfj⟩ := HO.out.at_ j hj
      rw [hri] at xi
      rw [hrj] at xj
      rw [hfi] at zi
      rw [hfj] at zj
      have p1 : (0 : Int) ≤ ((at' L i : Nat) : Int) := by omega
      have p2 : ((at' L i : Nat) : Int) < (n : Int) := by omega
      have p3 : (0 : Int) ≤ ((at' L j : Nat) : Int) := by omega
      have p4 : ((at' L j : Nat) : Int) < (n : Int) := by omega
      have HNe := Lib.hid hij
      clear hri hrj hfi hfj hne hij
      generalize hA : at' L i = a at *
      generalize hB : at' L j = b at *
      have HA := Lib.hid hA
      have HB' := Lib.hid hB
      clear hA hB
      by_cases hlt : j < i
      · have d2 : decide ((j : Int) < (i : Int)) = true := decide_eq_true (by omega)
        have hm := HM.out
        rw [meet, if_neg HNe.out, if_pos hlt] at hm
        have Hm := Lib.hid hm
        have HL := Lib.hid hlt
        clear hm hlt
        go_wp2
        go_quiet (fail)
        go_wp2
        go_roundg k'
        case measure => omega
        case rel => exact ⟨o i, j, rfl, by rw [HB'.out], hoi, hj, by have := HT.out i (by have := HL.out; omega) hi; omega, Hm, Lib.hid (pw_below_drewN HB.out _)⟩
      · have d2 : decide ((j : Int) < (i : Int)) = false := decide_eq_false (by omega)
        have hm := HM.out
        rw [meet, if_neg HNe.out, if_neg hlt] at hm
        have Hm := Lib.hid hm
        have HL := Lib.hid hlt
        clear hm hlt
        go_wp2
        go_quiet (fail)
        go_wp2
        go_roundg k'
        case measure => omega
        case rel => exact ⟨i, o j, by rw [HA.out], rfl, hi, hoj, by have := HT.out j (by have := HL.out; have := HNe.out; omega) hj; omega, Hm, Lib.hid (pw_below_drewN HB.out _)⟩
