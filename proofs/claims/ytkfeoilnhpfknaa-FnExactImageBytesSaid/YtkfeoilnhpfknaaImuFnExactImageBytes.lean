/- What toImage makes may be marked; the contract of impl.ImageBytes. -/
import Derived.Test.YtkfeoilnhpfknaaImtFnExactImageBytes
namespace Go.Proofs.Ytkfeoilnhpfknaa.ImFnExactImageBytes
open Go.RowKit Go.Proofs.Ytkfeoilnhpfknaa.QFnExactImageBytes Go.Proofs.YtkfeoilnhpfknaaW.PrintWords Go.Proofs.YtkfeoilnhpfknaaW.PrintLast
set_option linter.unusedVariables false

/-- The blocks made between two heights of the heap. -/
def Made (a b : Nat) (k : Nat) : Prop := a ≤ k ∧ k < b
theorem gr_of_R {α : Type} {d : Kd α} {e : Nat} {w : World} {base b : Nat} {ok : Nat → Prop} {v : Value} {xs : List α} (z : α) (T : World → Nat → Value → Prop) (hb : w.heap.size ≤ b) (h : Kd.R d e w base ok v xs)
    (hT : ∀ (x : α) (okx : Nat → Prop) (c : List Value), x ∈ xs → d.M w base okx x c → ∀ j, j < d.sz → ∃ u, c[j]? = some u ∧ T w j u) : GR (Made base b) w v xs.length d.sz T := by
  obtain ⟨A, c, e1⟩ := Kd.R_slice h
  refine ⟨A, c, e1, fun hn => ?_⟩
  obtain ⟨g, cap, e2, hbg, hgl, cells, hc⟩ := Kd.R_form h hn
  rw [e2] at h
  rw [e1] at e2
  injection e2 with e2 _ _
  refine ⟨g, cells, e, e2, ⟨hbg, by omega⟩, hc, fun i hi j hj => ?_⟩
  obtain ⟨cs, hcl, hM, hcc, _⟩ := Kd.R_elem h z (i : Int) (by omega) (by omega)
  rw [Int.toNat_natCast] at hM hcc
  obtain ⟨u, hu, hTu⟩ := hT _ _ cs (by rw [List.getD_eq_getElem?_getD, List.getElem?_eq_getElem hi]; exact List.getElem_mem hi) hM j hj
  exact ⟨u, by have h2 := hcc j u hu; rw [blk_cell hc] at h2; exact h2, hTu⟩
theorem made_mono {a a' b : Nat} (h : a ≤ a') : ∀ k, Made a' b k → Made a b k := fun _ hk => ⟨Nat.le_trans h hk.1, hk.2⟩
theorem gr_S {w : World} {base b : Nat} {ok : Nat → Prop} {v : Value} {l : List (List Bool)} (hb : w.heap.size ≤ b) (h : Kd.R (Kd.slice 4 Kd.bool) 55 w base ok v l) (hl : ∀ s ∈ l, s.length ≤ 1048576) : GR (Made base b) w v l.length 1 (TS (Made base b)) := by
  refine gr_of_R ([] : List Bool) _ hb h fun x okx c hx hM j hj => ?_
  obtain ⟨u, rfl, hR⟩ := hM
  have : j = 0 := by have : (Kd.slice 4 Kd.bool).sz = 1 := rfl; omega
  subst this
  refine ⟨u, rfl, x.length, hl x hx, gr_of_R false TB hb hR fun y oky c hy hM j hj => ?_⟩
  have : j = 0 := by have : Kd.bool.sz = 1 := rfl; omega
  subst this
  have e : c = [.bool y] := hM
  subst e
  exact ⟨_, rfl, y, rfl⟩
theorem gr_I {w : World} {base b : Nat} {ok : Nat → Prop} {v : Value} {l : List Int} (hb : w.heap.size ≤ b) (h : Kd.R (Kd.int .i64) 3 w base ok v l) : GR (Made base b) w v l.length 1 TI := by
  refine gr_of_R (0 : Int) TI hb h fun y oky c hy hM j hj => ?_
  have : j = 0 := by have : (Kd.int .i64).sz = 1 := rfl; omega
  subst this
  have e : c = [.int .i64 y] := hM
  subst e
  exact ⟨_, rfl, y, rfl⟩
theorem gr_X {w : World} {base b : Nat} {ok : Nat → Prop} {v : Value} {l : List S68} (hb : w.heap.size ≤ b) (h : Kd.R k68 68 w base ok v l) : GR (Made base b) w v l.length 5 TI := by
  refine gr_of_R z68 TI hb h fun y oky c hy hM j hj => ?_
  have e := k68_openM hM
  subst e
  have hj : j < 5 := hj
  rcases j with _ | _ | _ | _ | _ | j
  · exact ⟨_, rfl, _, rfl⟩
  · exact ⟨_, rfl, _, rfl⟩
  · exact ⟨_, rfl, _, rfl⟩
  · exact ⟨_, rfl, _, rfl⟩
  · exact ⟨_, rfl, _, rfl⟩
  · omega
theorem gr_M {w : World} {base b : Nat} {ok : Nat → Prop} {v : Value} {l : List S72} (hb : w.heap.size ≤ b) (h : Kd.R k72 72 w base ok v l) (hl : ∀ m ∈ l, m.f1.length ≤ 1048576) : GR (Made base b) w v l.length 2 (TM (Made base b)) := by
  refine gr_of_R z72 _ hb h fun y oky c hy hM j hj => ?_
  obtain ⟨v1, e, hR⟩ := k72_openM hM
  subst e
  have hj : j < 2 := hj
  rcases j with _ | _ | j
  · exact ⟨_, rfl, fun _ => ⟨_, rfl⟩, fun e => absurd e (by decide)⟩
  · exact ⟨_, rfl, fun e => absurd e (by decide), fun _ => ⟨_, hl y hy, gr_I hb hR⟩⟩
  · omega
theorem gr_C {w : World} {base b : Nat} {ok : Nat → Prop} {v : Value} {l : List S53} (hb : w.heap.size ≤ b) (h : Kd.R k53 53 w base ok v l) (hl : ∀ c ∈ l, c.f2.length ≤ 1048576 ∧ c.f3.length ≤ 1048576 ∧ ∀ m ∈ c.f3, m.f1.length ≤ 1048576) : GR (Made base b) w v l.length 4 (TC (Made base b)) := by
  refine gr_of_R z53 _ hb h fun y oky c hy hM j hj => ?_
  obtain ⟨v2, v3, e, hR2, hR3⟩ := k53_openM hM
  subst e
  have hj : j < 4 := hj
  have h1 := hl y hy
  rcases j with _ | _ | _ | _ | j
  · exact ⟨_, rfl, fun _ => ⟨_, rfl⟩, fun e => absurd e (by decide), fun e => absurd e (by decide), fun e => absurd e (by decide)⟩
  · exact ⟨_, rfl, fun e => absurd e (by decide), fun _ => ⟨_, rfl⟩, fun e => absurd e (by decide), fun e => absurd e (by decide)⟩
  · exact ⟨_, rfl, fun e => absurd e (by decide), fun e => absurd e (by decide), fun _ => ⟨_, h1.1, gr_X hb hR2⟩, fun e => absurd e (by decide)⟩
  · exact ⟨_, rfl, fun e => absurd e (by decide), fun e => absurd e (by decide), fun e => absurd e (by decide), fun _ => ⟨_, h1.2.1, gr_M hb hR3 h1.2.2⟩⟩
  · omega

/-- What is made later leaves it as it is. -/
theorem GR.below {F : Nat → Prop} {w w1 : World} {v : Value} {n sz : Nat} {T : World → Nat → Value → Prop} (hb : Below w.heap.size w w1) (hT : ∀ u j, T w j u → T w1 j u) (h : GR F w v n sz T) : GR F w1 v n sz T := by
  obtain ⟨A, c, e, h⟩ := h
  refine ⟨A, c, e, fun hn => ?_⟩
  obtain ⟨g, cs, t, e1, hF, hc, hcc⟩ := h hn
  exact ⟨g, cs, t, e1, hF, blk_below hc hb, fun i hi j hj => by obtain ⟨u, hu, h2⟩ := hcc i hi j hj; exact ⟨u, hu, hT u j h2⟩⟩
theorem grS_below {F : Nat → Prop} {w w1 : World} {v : Value} {n : Nat} (hb : Below w.heap.size w w1) (h : GR F w v n 1 (TS F)) : GR F w1 v n 1 (TS F) :=
  h.below hb fun u j ⟨n, hn, hg⟩ => ⟨n, hn, hg.below hb fun _ _ h => h⟩
theorem grC_below {F : Nat → Prop} {w w1 : World} {v : Value} {n : Nat} (hb : Below w.heap.size w w1) (h : GR F w v n 4 (TC F)) : GR F w1 v n 4 (TC F) :=
  h.below hb fun u j h => ⟨h.1, h.2.1, fun e => by obtain ⟨n, hn, hg⟩ := h.2.2.1 e; exact ⟨n, hn, hg.below hb fun _ _ h => h⟩, fun e => by obtain ⟨n, hn, hg⟩ := h.2.2.2 e; exact ⟨n, hn, hg.below hb fun u j h => ⟨h.1, fun e => by obtain ⟨n, hn, hg⟩ := h.2 e; exact ⟨n, hn, hg.below hb fun _ _ h => h⟩⟩⟩⟩

def Gives (l0 : List (List Bool)) (l1 : List S53) (a2 : Int) (w : World) (e : Ending) (w' : World) : Prop := ∃ (v : Value) (b : Bool), e = .returned (.tuple #[v, .bool b]) ∧ (b = true ↔ ImgOk l0 l1 a2) ∧ Kd.R (Kd.int .u8) 5 w' w.heap.size (fun _ => True) v (if b = true then imgB l0 l1 a2 else []) ∧ Below w.heap.size w w'

set_option maxHeartbeats 8000000 in
set_option maxRecDepth 100000 in
theorem imgBytes_c (A0 : Option Addr) (c0 : Nat) (l0 : List (List Bool)) (A1 : Option Addr) (c1 : Nat) (l1 : List S53) (a2 : Int) (w : World) (hr0 : Kd.C (Kd.slice 4 Kd.bool) w A0 l0.length l0) (hr1 : Kd.C k53 w A1 l1.length l1) (hsz : (imgB l0 l1 a2).length ≤ 1099511627) :
    Calls Try.prog 12 #[.agg #[.slice A0 l0.length c0, .slice A1 l1.length c1, .int .i64 a2]] w (Gives l0 l1 a2 w) := by
  have hu30 := Try.underlying30
  have HR0 := Lib.hid hr0
  have HR1 := Lib.hid hr1
  have HSz := Lib.hid hsz
  clear hr0 hr1
  go_enter Try.func12, Try.ntmps12
  go_wp2_with (first
    | ((with_reducible refine gate_dst (N := 1) rfl ?_); refine box_event ?hg (N := 1) ?hd (cs := #[.slice A0 l0.length c0, .slice A1 l1.length c1, .int .i64 a2]) (t := 30) ?hr ?_; (case hd => rfl); (case hg => rfl); (case hr => first | (go_simp; done) | (go_simp; rfl)); intro gb hg w6 hbox hb; clear hg; have HB := Lib.hid hb; have HX := Lib.hid hbox; have z0 := (blk_cell hbox 0).trans rfl; have z1 := (blk_cell hbox 1).trans rfl; have z2 := (blk_cell hbox 2).trans rfl; clear hbox hb)
    | (go_at_call 9; refine (image_c A0 c0 l0 A1 c1 l1 a2 _ (Kd.C_below HR0.out HB.out) (Kd.C_below HR1.out HB.out) HSz.out).mono ?_; rintro e w7 ⟨b, rfl, hbi, hb⟩; have HBi := Lib.hid hbi; have HB7 := Lib.hid (below_step HB.out hb); have HX7 := Lib.hid (blk_below HX.out hb); clear hbi hb z0 z1 z2; cases b)
    | (go_at_call 31; refine (bytes_c gb l0 l1 a2 _ (by have := len0 HSz.out; omega) (by have := len1 HSz.out; omega) ⟨A0, c0, A1, c1, HX7.out, Kd.C_below HR0.out HB7.out, Kd.C_below HR1.out HB7.out⟩ HSz.out).mono ?_; rintro e w8 ⟨v, rfl, hO, hb⟩; obtain ⟨Av, cv, rfl⟩ := hO.slice; have HO := Lib.hid hO; have HB8 := Lib.hid hb; clear hO hb))
  · go_ret2
    exact ⟨_, false, rfl, HBi.out, Kd.R_nil _ _ _ _ _, HB7.out⟩
  · go_ret2
    refine ⟨_, true, rfl, ⟨fun _ => HBi.out.1 (by trivial), fun _ => rfl⟩, ?_, below_step HB7.out HB8.out⟩
    rw [if_pos rfl]
    exact Kd.R_lower (HO.out.long (by simp only [imgB, headB, List.length_append, putB_len, List.length_cons, List.length_nil]; omega)) HB7.out.size

end Go.Proofs.Ytkfeoilnhpfknaa.ImFnExactImageBytes
