/- The contract of impl.Doms; what toFn makes may be marked. -/
import Derived.Test.YtlamooicofkjlaaDmkFnExactDoms
import Derived.Test.YtlamooicofkjlaaDmmFnExactDoms
import Derived.Test.YtlamooicofkjlaaSpDFnExactDoms
import Derived.Test.YtlamooicofkjlaaIntMFnExactDoms
namespace Go.Proofs.Ytlamooicofkjlaa.DmFnExactDoms
open Go.RowKit Go.Proofs.Ytlamooicofkjlaa.QFnExactDoms Go.Proofs.YtlamooicofkjlaaW.PrintWords Go.Proofs.YtlamooicofkjlaaW.PrintLast Go.Proofs.Ytlamooicofkjlaa.SrFnExactDoms
open Go.Proofs.Ytlamooicofkjlaa.FnEFnExactDoms (Short' ShortB')
open Go.Proofs.Ytlamooicofkjlaa.SpDFnExactDoms (edges_of eds_len)
set_option linter.unusedVariables false

/-- What both answer. -/
def Answer (B : List S70) (r : List Int) : Prop := (EOk B → IsDoms (E B) B.length r) ∧ (¬ EOk B → r = [])
def Gives (B : List S70) (w : World) (e : Ending) (w' : World) : Prop := ∃ v r, e = .returned v ∧ Answer B r ∧ (EOk B → Tot (E B) B.length) ∧ Kd.R (Kd.int .i64) 3 w' w.heap.size (fun _ => True) v r ∧ Below w.heap.size w w'
theorem answer_eq {B : List S70} {r1 r2 : List Int} (hT : EOk B → Tot (E B) B.length) (h1 : Answer B r1) (h2 : Answer B r2) : r1 = r2 := by
  by_cases h : EOk B
  · exact isdoms_eq (hT h) (h1.1 h) (h2.1 h)
  · rw [h1.2 h, h2.2 h]
theorem answer_len {B : List S70} {r : List Int} (h : Answer B r) : r.length ≤ 400 := by
  by_cases he : EOk B
  · rw [(h.1 he).len]; exact he.1
  · rw [h.2 he]; exact Nat.zero_le _

set_option maxHeartbeats 8000000 in
theorem impl_c (v0 v3 : Value) (a1 a2 : Int) (A4 : Option Addr) (c4 : Nat) (L0 : List S33) (L3 : List S77) (B : List S70) (w : World) (hr4 : Kd.C k70 w A4 B.length B) (hs : Short' L0 L3 B) (n0 c0 n3 c3 : Nat) (A0 A3 : Option Addr) (e0 : v0 = .slice A0 n0 c0) (e3 : v3 = .slice A3 n3 c3) :
    Calls Try.prog 7 #[.agg #[v0, .int .i64 a1, .int .i64 a2, v3, .slice A4 B.length c4]] w (Gives B w) := by
  subst e0 e3
  have hu37 := Try.underlying37
  have HR4 := Lib.hid hr4
  have HS := Lib.hid hs
  have hl : B.length ≤ 1099511627776 := by have := hs.b; omega
  have hls : ∀ u, (eds B u).length ≤ 1099511627776 := fun u => by have := eds_len hs u; omega
  have HLs := Lib.hid hls
  clear hr4 hs hls
  go_enter Try.func7, Try.ntmps7
  go_upto_region 1 with ((with_reducible refine gate_dst (N := 1) rfl ?_); refine box_event ?hg (N := 1) ?hd (cs := #[.slice A0 n0 c0, .int .i64 a1, .int .i64 a2, .slice A3 n3 c3, .slice A4 B.length c4]) (t := 37) ?hr ?_; (case hd => rfl); (case hg => rfl); (case hr => first | (go_simp; done) | (go_simp; rfl)); intro gb hg w6 hbox hb; clear hg; have HB := Lib.hid hb; have HM : Hid (MemB w6 gb B) := Lib.hid ⟨A4, c4, (blk_cell hbox 4).trans rfl, Kd.C_below HR4.out hb⟩; clear hbox hb)
  go_wp2_with fail
  refine (edges_c gb B _ HM.out hl HLs.out).mono ?_
  rintro e w7 ⟨b, rfl, hbi, hb⟩
  have HBi := Lib.hid hbi
  have HB7 := Lib.hid (below_step HB.out hb HB.out.size)
  have HM7 := Lib.hid (HM.out.below hb)
  clear hbi hb
  cases b
  · go_wp2
    go_ret
    have hn : ¬ EOk B := fun h => by have := HBi.out.2 h; cases this
    exact ⟨_, [], rfl, ⟨fun h => absurd h hn, fun _ => rfl⟩, fun h => absurd h hn, Kd.R_nil _ _ _ _ _, HB7.out⟩
  · have he := HBi.out.1 rfl
    have HE := Lib.hid he
    clear he
    go_wp2_with fail
    refine (doms_c gb B w7 HM7.out (edges_of HS.out HE.out) (fun u => by have := eds_len HS.out u; omega)).mono ?_
    rintro e w8 ⟨v, r, rfl, hD, hT, hR, hb⟩
    have HD := Lib.hid hD
    have HT := Lib.hid hT
    have HR := Lib.hid hR
    have HB8 := Lib.hid hb
    clear hD hT hR hb
    go_wp2
    go_ret
    exact ⟨_, r, rfl, ⟨fun _ => HD.out, fun h => absurd HE.out h⟩, fun _ => HT.out, Kd.R_lower HR.out HB7.out.size, below_step HB7.out HB8.out HB7.out.size⟩

/-- The blocks made between two heights of the heap. -/
def Made (a b : Nat) (k : Nat) : Prop := a ≤ k ∧ k < b
theorem gr_of_R {α : Type} {d : Kd α} {e : Nat} {w : World} {base b : Nat} {ok : Nat → Prop} {v : Value} {xs : List α} (z : α) (T : World → Nat → Value → Prop) (hb : w.heap.size ≤ b) (h : Kd.R d e w base ok v xs)
    (hT : ∀ (x : α) (okx : Nat → Prop) (c : List Value), x ∈ xs → d.M w base okx x c → ∀ j, j < d.sz → ∃ u, c[j]? = some u ∧ T w j u) : GR (Made base b) w v xs.length d.sz T := by
  obtain ⟨A, c, e1⟩ := Kd.R_slice h
  refine ⟨A, c, e1, fun hn => ?_⟩
  obtain ⟨g, cap, e2, hbg, hgl, cells, hc⟩ := Kd.R_form h hn
  rw [e2] at h
  rw [e1] at e2
  injection e2 with e2 _ _
  refine ⟨g, cells, e, e2, ⟨hbg, by omega⟩, hc, fun i hi j hj => ?_⟩
  obtain ⟨cs, hcl, hM, hcc, _⟩ := Kd.R_elem h z (i : Int) (by omega) (by omega)
  rw [Int.toNat_natCast] at hM hcc
  obtain ⟨u, hu, hTu⟩ := hT _ _ cs (by rw [List.getD_eq_getElem?_getD, List.getElem?_eq_getElem hi]; exact List.getElem_mem hi) hM j hj
  exact ⟨u, by have h2 := hcc j u hu; rw [blk_cell hc] at h2; exact h2, hTu⟩
theorem gr_I {w : World} {base b : Nat} {ok : Nat → Prop} {v : Value} {l : List Int} (hb : w.heap.size ≤ b) (h : Kd.R (Kd.int .i64) 3 w base ok v l) : GR (Made base b) w v l.length 1 TI := by
  refine gr_of_R (0 : Int) TI hb h fun y oky c hy hM j hj => ?_
  have : j = 0 := by have : (Kd.int .i64).sz = 1 := rfl; omega
  subst this
  have e : c = [.int .i64 y] := hM
  subst e
  exact ⟨_, rfl, y, rfl⟩
theorem gr_T {w : World} {base b : Nat} {ok : Nat → Prop} {v : Value} {l : List S33} (hb : w.heap.size ≤ b) (h : Kd.R k33 33 w base ok v l) : GR (Made base b) w v l.length 2 TI := by
  refine gr_of_R z33 TI hb h fun y oky c hy hM j hj => ?_
  have e := k33_openM hM
  subst e
  have hj : j < 2 := hj
  rcases j with _ | _ | j
  · exact ⟨_, rfl, _, rfl⟩
  · exact ⟨_, rfl, _, rfl⟩
  · omega
theorem gr_V {w : World} {base b : Nat} {ok : Nat → Prop} {v : Value} {l : List S77} (hb : w.heap.size ≤ b) (h : Kd.R k77 77 w base ok v l) (hl : ∀ m ∈ l, m.f3.length ≤ 1048576) : GR (Made base b) w v l.length 5 (TV (Made base b)) := by
  refine gr_of_R z77 _ hb h fun y oky c hy hM j hj => ?_
  obtain ⟨v4, e, hR⟩ := k77_openM hM
  subst e
  have hj : j < 5 := hj
  rcases j with _ | _ | _ | _ | _ | j
  · exact ⟨_, rfl, fun _ => ⟨_, rfl⟩, fun e => absurd e (by decide), fun e => absurd e (by decide), fun e => absurd e (by decide), fun e => absurd e (by decide)⟩
  · exact ⟨_, rfl, fun e => absurd e (by decide), fun _ => ⟨_, rfl⟩, fun e => absurd e (by decide), fun e => absurd e (by decide), fun e => absurd e (by decide)⟩
  · exact ⟨_, rfl, fun e => absurd e (by decide), fun e => absurd e (by decide), fun _ => ⟨_, rfl⟩, fun e => absurd e (by decide), fun e => absurd e (by decide)⟩
  · exact ⟨_, rfl, fun e => absurd e (by decide), fun e => absurd e (by decide), fun e => absurd e (by decide), fun _ => ⟨_, rfl⟩, fun e => absurd e (by decide)⟩
  · exact ⟨_, rfl, fun e => absurd e (by decide), fun e => absurd e (by decide), fun e => absurd e (by decide), fun e => absurd e (by decide), fun _ => ⟨_, hl y hy, gr_I hb hR⟩⟩
  · omega
theorem gr_G {w : World} {base b : Nat} {ok : Nat → Prop} {v : Value} {l : List S72} (hb : w.heap.size ≤ b) (h : Kd.R k72 72 w base ok v l) (hl : ∀ m ∈ l, m.f1.length ≤ 1048576) : GR (Made base b) w v l.length 2 (TG (Made base b)) := by
  refine gr_of_R z72 _ hb h fun y oky c hy hM j hj => ?_
  obtain ⟨v1, e, hR⟩ := k72_openM hM
  subst e
  have hj : j < 2 := hj
  rcases j with _ | _ | j
  · exact ⟨_, rfl, fun _ => ⟨_, rfl⟩, fun e => absurd e (by decide)⟩
  · exact ⟨_, rfl, fun e => absurd e (by decide), fun _ => ⟨_, hl y hy, gr_I hb hR⟩⟩
  · omega
theorem gr_K {w : World} {base b : Nat} {ok : Nat → Prop} {v : Value} {l : List S70} (hb : w.heap.size ≤ b) (h : Kd.R k70 70 w base ok v l) (hl : ∀ m ∈ l, ShortB' m) : GR (Made base b) w v l.length 5 (TK (Made base b)) := by
  refine gr_of_R z70 _ hb h fun y oky c hy hM j hj => ?_
  obtain ⟨v0, v1, v3, v4, e, h0, h1, h3, h4⟩ := k70_openM hM
  subst e
  obtain ⟨q0, q1, q3, q4, q5⟩ := hl y hy
  have hj : j < 5 := hj
  rcases j with _ | _ | _ | _ | _ | j
  · exact ⟨_, rfl, fun _ => ⟨_, q0, gr_I hb h0⟩, fun e => absurd e (by decide), fun e => absurd e (by decide), fun e => absurd e (by decide), fun e => absurd e (by decide)⟩
  · exact ⟨_, rfl, fun e => absurd e (by decide), fun _ => ⟨_, q1, gr_I hb h1⟩, fun e => absurd e (by decide), fun e => absurd e (by decide), fun e => absurd e (by decide)⟩
  · exact ⟨_, rfl, fun e => absurd e (by decide), fun e => absurd e (by decide), fun _ => ⟨_, rfl⟩, fun e => absurd e (by decide), fun e => absurd e (by decide)⟩
  · exact ⟨_, rfl, fun e => absurd e (by decide), fun e => absurd e (by decide), fun e => absurd e (by decide), fun _ => ⟨_, q3, gr_I hb h3⟩, fun e => absurd e (by decide)⟩
  · exact ⟨_, rfl, fun e => absurd e (by decide), fun e => absurd e (by decide), fun e => absurd e (by decide), fun e => absurd e (by decide), fun _ => ⟨_, q4, gr_G hb h4 q5⟩⟩
  · omega
theorem grT_below {F : Nat → Prop} {w w1 : World} {v : Value} {n : Nat} (hb : Below w.heap.size w w1) (h : GR F w v n 2 TI) : GR F w1 v n 2 TI := h.below hb fun _ _ h => h
theorem grV_below {F : Nat → Prop} {w w1 : World} {v : Value} {n : Nat} (hb : Below w.heap.size w w1) (h : GR F w v n 5 (TV F)) : GR F w1 v n 5 (TV F) := h.below hb fun u j h => tv_below hb h
theorem grK_below {F : Nat → Prop} {w w1 : World} {v : Value} {n : Nat} (hb : Below w.heap.size w w1) (h : GR F w v n 5 (TK F)) : GR F w1 v n 5 (TK F) := h.below hb fun u j h => tk_below hb h
