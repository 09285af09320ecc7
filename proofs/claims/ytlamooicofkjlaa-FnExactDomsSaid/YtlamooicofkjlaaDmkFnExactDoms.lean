/- What (*impl.Fn).doms has made before it looks. -/
import Derived.Test.YtlamooicofkjlaaDmeFnExactDoms
import Derived.Test.YtlamooicofkjlaaDmjFnExactDoms
import Derived.Deep.DeepCutAuto
namespace Go.Proofs.Ytlamooicofkjlaa.DmFnExactDoms
open Go.RowKit Go.Proofs.Ytlamooicofkjlaa.QFnExactDoms Go.Proofs.YtlamooicofkjlaaW.PrintWords Go.Proofs.YtlamooicofkjlaaW.PrintLast Go.Proofs.YtlamooicofkjlaaW.PrintMore Go.Proofs.Ytlamooicofkjlaa.SrFnExactDoms Go.Proofs.Ytlamooicofkjlaa.DomP
open Go.Proofs.Ytlamooicofkjlaa.DfsP (Ord Rc)
open Go.Proofs.Ytlamooicofkjlaa.BfsP (nodup_le)
open Go.Proofs.Ytlamooicofkjlaa.PassP (wt)
set_option linter.unusedVariables false
set_option linter.unusedSimpArgs false

/-- The nearest blocks, as a list of own. -/
def DomsL (B : List S70) (w : World) (e : Ending) (w' : World) : Prop := ∃ v r, e = .returned v ∧ IsDoms (E B) B.length r ∧ Tot (E B) B.length ∧ Kd.R (Kd.int .i64) 3 w' w.heap.size (fun _ => True) v r ∧ Below w.heap.size w w'

theorem gateH {P : Program} {md : Region.Mode} {ops : Array Oper} {Q : Exit → Act → World → Prop} {S : World → Prop} {fuel : Nat} {listed : Array Bool} {a : Act} {w : World} (h : wpAnyH P md ops Q S fuel listed a w) : wpAnyH P md ops Q S fuel listed a w := h

set_option maxHeartbeats 16000000 in
set_option maxRecDepth 100000 in
theorem doms_c (gb : Nat) (B : List S70) (w : World) (hM : MemB w gb B) (hE : EdgesIn B) (hs : ∀ u, (eds B u).length ≤ 2097152) : Calls Try.prog 23 #[.pointer (some ⟨gb, 0, none⟩)] w (DomsL B w) := by
  have HE := Lib.hid hE
  have HM := Lib.hid hM
  have HSs := Lib.hid hs
  have hn : B.length ≤ 400 := hE.le
  have hu37 := Try.underlying37
  clear hE hs hM
  go_enter Try.func23, Try.ntmps23
  go_upto_region 2 with (first
    | (go_at_call 39; refine (order_c gb B _ HM.out HE.out).mono ?_; rintro e w1 ⟨v3, L, rfl, hO, hr, hb⟩; have HO := Lib.hid hO; have HB1 := Lib.hid hb; obtain ⟨A3, c3, e3, hle, hC⟩ := Kd.R_reads hr; rw [ints_len] at e3 hC; subst e3; have HL := Lib.hid hC; clear hO hr hb hC hle)
    | (go_at_call 40; refine (before_c gb B _ (HM.out.below HB1.out) HE.out HSs.out).mono ?_; rintro e w2 ⟨v4, Pr, rfl, hP, hS, hb⟩; have HP := Lib.hid hP; have HB2 := Lib.hid (below_step HB1.out hb HB1.out.size); have HL2 := Lib.hid (Kd.C_below HL.out hb); obtain ⟨A4, c4, e4, hle, hC⟩ := Kd.S_reads hS; rw [prow_len, hP.1] at e4 hC; subst e4; have HQ := Lib.hid hC; clear hP hS hb hC hle HL HB1))
  have hm : L.length ≤ 400 := by have := nodup_le B.length L HO.out.nd HO.out.lt; omega
  obtain ⟨A, c, y4, hC4⟩ := HM.out.below HB2.out
  have Y2 := Lib.hid y4
  clear hC4
  go_cut [5, 6] from 18 (fun v5 v6 W => ∃ g5 g6 Aa ca Ab cb, v5 = .pointer (some ⟨g5, 0, none⟩) ∧ v6 = .pointer (some ⟨g6, 0, none⟩) ∧ Hid (DMem w2 W B.length g5 g6 Aa ca Ab cb (fun _ => 0) (fun _ => 0)))
  case first =>
    refine wp_region_held_drew (S := fun w' => w'.cell? ⟨gb, 4, none⟩ = some (.slice A B.length c)) (by kernel_rfl) y4 (fun hHeld => ?_)
    have HB := Lib.hid (show Below w2.heap.size w2 w2.drew from below_drew (Below.refl _ _))
    · skip
      refine wpAnyH_take (i := 0) (oi := ({ dst := some 22, op := Op.move (Operand.tmp 0), type := 80, pos := "l06_ssa.go:114", after := #[], guard := none } : Oper)) (v := ?_) rfl (by kernel_rfl) (by kernel_rfl) (by kernel_rfl) (fun _ _ _ h => h) (Or.inl ⟨by rfl, ?_⟩) (by assumption) ?_
      rotate_left
      · (intro w' hSw; (try dsimp only at hSw); first | (go_simp; done) | (go_simp; with_reducible rfl))
      try simp only [Act.put, List.setIfInBounds_toArray, List.set_cons_zero, List.set_cons_succ]
      refine wpAnyH_take (i := 1) (oi := ({ dst := some 23, op := Op.nilCheck (Operand.tmp 22), type := 0, pos := "l06_ssa.go:114", after := #[{ on := 0, ground := Ground.data }], guard := none } : Oper)) (v := ?_) rfl (by kernel_rfl) (by kernel_rfl) (by kernel_rfl) (fun _ _ _ h => h) (Or.inl ⟨by rfl, ?_⟩) (by assumption) ?_
      rotate_left
      · (intro w' hSw; (try dsimp only at hSw); first | (go_simp; done) | (go_simp; with_reducible rfl))
      try simp only [Act.put, List.setIfInBounds_toArray, List.set_cons_zero, List.set_cons_succ]
      refine wpAnyH_take (i := 2) (oi := ({ dst := some 24, op := Op.fieldAddr 37 (Operand.tmp 23) 3, type := 0, pos := "l06_ssa.go:114", after := #[{ on := 1, ground := Ground.data }], guard := none } : Oper)) (v := ?_) rfl (by kernel_rfl) (by kernel_rfl) (by kernel_rfl) (fun _ _ _ h => h) (Or.inl ⟨by rfl, ?_⟩) (by assumption) ?_
      rotate_left
      · (intro w' hSw; (try dsimp only at hSw); first | (go_simp; done) | (go_simp; with_reducible rfl))
      try simp only [Act.put, List.setIfInBounds_toArray, List.set_cons_zero, List.set_cons_succ]
      refine wpAnyH_take (i := 3) (oi := ({ dst := some 25, op := Op.load 35 (Operand.tmp 24), type := 35, pos := "l06_ssa.go:114", after := #[{ on := 2, ground := Ground.data }], guard := none } : Oper)) (v := ?_) rfl (by kernel_rfl) (by kernel_rfl) (by kernel_rfl) (fun _ _ _ h => h) (Or.inl ⟨by rfl, ?_⟩) (by assumption) ?_
      rotate_left
      · (intro w' hSw; (try dsimp only at hSw); first | (go_simp; done) | (go_simp; with_reducible rfl))
      try simp only [Act.put, List.setIfInBounds_toArray, List.set_cons_zero, List.set_cons_succ]
      refine wpAnyH_take (i := 4) (oi := ({ dst := some 26, op := Op.call { callee := Callee.builtin Builtin.len, args := #[Operand.tmp 25], argTypes := #[35] }, type := 3, pos := "l06_ssa.go:114", after := #[{ on := 3, ground := Ground.data }], guard := none } : Oper)) (v := ?_) rfl (by kernel_rfl) (by kernel_rfl) (by kernel_rfl) (fun _ _ _ h => h) (Or.inl ⟨by rfl, ?_⟩) (by assumption) ?_
      rotate_left
      · (intro w' hSw; (try dsimp only at hSw); first | (go_simp; done) | (go_simp; with_reducible rfl))
      try simp only [Act.put, List.setIfInBounds_toArray, List.set_cons_zero, List.set_cons_succ]
      refine wpAnyH_take (i := 6) (oi := ({ dst := some 28, op := Op.move (Operand.tmp 0), type := 80, pos := "l06_ssa.go:114", after := #[], guard := none } : Oper)) (v := ?_) rfl (by kernel_rfl) (by kernel_rfl) (by kernel_rfl) (fun _ _ _ h => h) (Or.inl ⟨by rfl, ?_⟩) (by assumption) ?_
      rotate_left
      · (intro w' hSw; (try dsimp only at hSw); first | (go_simp; done) | (go_simp; with_reducible rfl))
      try simp only [Act.put, List.setIfInBounds_toArray, List.set_cons_zero, List.set_cons_succ]
      refine wpAnyH_take (i := 7) (oi := ({ dst := some 29, op := Op.nilCheck (Operand.tmp 28), type := 0, pos := "l06_ssa.go:114", after := #[{ on := 6, ground := Ground.data }], guard := none } : Oper)) (v := ?_) rfl (by kernel_rfl) (by kernel_rfl) (by kernel_rfl) (fun _ _ _ h => h) (Or.inl ⟨by rfl, ?_⟩) (by assumption) ?_
      rotate_left
      · (intro w' hSw; (try dsimp only at hSw); first | (go_simp; done) | (go_simp; with_reducible rfl))
      try simp only [Act.put, List.setIfInBounds_toArray, List.set_cons_zero, List.set_cons_succ]
      refine wpAnyH_take (i := 8) (oi := ({ dst := some 30, op := Op.fieldAddr 37 (Operand.tmp 29) 3, type := 0, pos := "l06_ssa.go:114", after := #[{ on := 7, ground := Ground.data }], guard := none } : Oper)) (v := ?_) rfl (by kernel_rfl) (by kernel_rfl) (by kernel_rfl) (fun _ _ _ h => h) (Or.inl ⟨by rfl, ?_⟩) (by assumption) ?_
      rotate_left
      · (intro w' hSw; (try dsimp only at hSw); first | (go_simp; done) | (go_simp; with_reducible rfl))
      try simp only [Act.put, List.setIfInBounds_toArray, List.set_cons_zero, List.set_cons_succ]
      refine wpAnyH_take (i := 9) (oi := ({ dst := some 31, op := Op.load 35 (Operand.tmp 30), type := 35, pos := "l06_ssa.go:114", after := #[{ on := 8, ground := Ground.data }], guard := none } : Oper)) (v := ?_) rfl (by kernel_rfl) (by kernel_rfl) (by kernel_rfl) (fun _ _ _ h => h) (Or.inl ⟨by rfl, ?_⟩) (by assumption) ?_
      rotate_left
      · (intro w' hSw; (try dsimp only at hSw); first | (go_simp; done) | (go_simp; with_reducible rfl))
      try simp only [Act.put, List.setIfInBounds_toArray, List.set_cons_zero, List.set_cons_succ]
      refine wpAnyH_take (i := 10) (oi := ({ dst := some 32, op := Op.call { callee := Callee.builtin Builtin.len, args := #[Operand.tmp 31], argTypes := #[35] }, type := 3, pos := "l06_ssa.go:114", after := #[{ on := 9, ground := Ground.data }], guard := none } : Oper)) (v := ?_) rfl (by kernel_rfl) (by kernel_rfl) (by kernel_rfl) (fun _ _ _ h => h) (Or.inl ⟨by rfl, ?_⟩) (by assumption) ?_
      rotate_left
      · (intro w' hSw; (try dsimp only at hSw); first | (go_simp; done) | (go_simp; with_reducible rfl))
      try simp only [Act.put, List.setIfInBounds_toArray, List.set_cons_zero, List.set_cons_succ]
      clear hHeld y4
      repeat' (first
        | ((with_reducible refine gateH ?_); refine wpAnyH_ready (rs := [5, 11, 12, 13]) (by decide +kernel) (by simp) ?_; refine AllReadyH.cons (o := ({ dst := some 27, op := Op.makeSlice 30 (Operand.tmp 26) (Operand.tmp 26), type := 30, pos := "l06_ssa.go:114", after := #[{ on := 4, ground := Ground.data }, { on := 4, ground := Ground.data }], guard := none } : Oper)) rfl (fun K hK => ?_) (AllReadyH.cons (o := ({ dst := some 33, op := Op.makeSlice 30 (Operand.tmp 32) (Operand.tmp 32), type := 30, pos := "l06_ssa.go:114", after := #[{ on := 10, ground := Ground.data }, { on := 10, ground := Ground.data }], guard := none } : Oper)) rfl (fun K hK => ?_) (AllReadyH.cons (o := ({ dst := some 5, op := Op.alloc 30, type := 0, pos := "l06_ssa.go:114", after := #[], guard := none } : Oper)) rfl (fun K hK => ?_) (AllReadyH.cons (o := ({ dst := some 6, op := Op.alloc 30, type := 0, pos := "l06_ssa.go:114", after := #[], guard := none } : Oper)) rfl (fun K hK => ?_) AllReadyH.nil))))
        | ((with_reducible refine gateH ?_); refine wpAnyH_ready (rs := [5, 11, 12]) (by decide +kernel) (by simp) ?_; refine AllReadyH.cons (o := ({ dst := some 27, op := Op.makeSlice 30 (Operand.tmp 26) (Operand.tmp 26), type := 30, pos := "l06_ssa.go:114", after := #[{ on := 4, ground := Ground.data }, { on := 4, ground := Ground.data }], guard := none } : Oper)) rfl (fun K hK => ?_) (AllReadyH.cons (o := ({ dst := some 33, op := Op.makeSlice 30 (Operand.tmp 32) (Operand.tmp 32), type := 30, pos := "l06_ssa.go:114", after := #[{ on := 10, ground := Ground.data }, { on := 10, ground := Ground.data }], guard := none } : Oper)) rfl (fun K hK => ?_) (AllReadyH.cons (o := ({ dst := some 5, op := Op.alloc 30, type := 0, pos := "l06_ssa.go:114", after := #[], guard := none } : Oper)) rfl (fun K hK => ?_) AllReadyH.nil)))
        | ((with_reducible refine gateH ?_); refine wpAnyH_ready (rs := [5, 11, 13]) (by decide +kernel) (by simp) ?_; refine AllReadyH.cons (o := ({ dst := some 27, op := Op.makeSlice 30 (Operand.tmp 26) (Operand.tmp 26), type := 30, pos := "l06_ssa.go:114", after := #[{ on := 4, ground := Ground.data }, { on := 4, ground := Ground.data }], guard := none } : Oper)) rfl (fun K hK => ?_) (AllReadyH.cons (o := ({ dst := some 33, op := Op.makeSlice 30 (Operand.tmp 32) (Operand.tmp 32), type := 30, pos := "l06_ssa.go:114", after := #[{ on := 10, ground := Ground.data }, { on := 10, ground := Ground.data }], guard := none } : Oper)) rfl (fun K hK => ?_) (AllReadyH.cons (o := ({ dst := some 6, op := Op.alloc 30, type := 0, pos := "l06_ssa.go:114", after := #[], guard := none } : Oper)) rfl (fun K hK => ?_) AllReadyH.nil)))
        | ((with_reducible refine gateH ?_); refine wpAnyH_ready (rs := [5, 12, 13]) (by decide +kernel) (by simp) ?_; refine AllReadyH.cons (o := ({ dst := some 27, op := Op.makeSlice 30 (Operand.tmp 26) (Operand.tmp 26), type := 30, pos := "l06_ssa.go:114", after := #[{ on := 4, ground := Ground.data }, { on := 4, ground := Ground.data }], guard := none } : Oper)) rfl (fun K hK => ?_) (AllReadyH.cons (o := ({ dst := some 5, op := Op.alloc 30, type := 0, pos := "l06_ssa.go:114", after := #[], guard := none } : Oper)) rfl (fun K hK => ?_) (AllReadyH.cons (o := ({ dst := some 6, op := Op.alloc 30, type := 0, pos := "l06_ssa.go:114", after := #[], guard := none } : Oper)) rfl (fun K hK => ?_) AllReadyH.nil)))
        | ((with_reducible refine gateH ?_); refine wpAnyH_ready (rs := [11, 12, 13]) (by decide +kernel) (by simp) ?_; refine AllReadyH.cons (o := ({ dst := some 33, op := Op.makeSlice 30 (Operand.tmp 32) (Operand.tmp 32), type := 30, pos := "l06_ssa.go:114", after := #[{ on := 10, ground := Ground.data }, { on := 10, ground := Ground.data }], guard := none } : Oper)) rfl (fun K hK => ?_) (AllReadyH.cons (o := ({ dst := some 5, op := Op.alloc 30, type := 0, pos := "l06_ssa.go:114", after := #[], guard := none } : Oper)) rfl (fun K hK => ?_) (AllReadyH.cons (o := ({ dst := some 6, op := Op.alloc 30, type := 0, pos := "l06_ssa.go:114", after := #[], guard := none } : Oper)) rfl (fun K hK => ?_) AllReadyH.nil)))
        | ((with_reducible refine gateH ?_); refine wpAnyH_ready (rs := [5, 11]) (by decide +kernel) (by simp) ?_; refine AllReadyH.cons (o := ({ dst := some 27, op := Op.makeSlice 30 (Operand.tmp 26) (Operand.tmp 26), type := 30, pos := "l06_ssa.go:114", after := #[{ on := 4, ground := Ground.data }, { on := 4, ground := Ground.data }], guard := none } : Oper)) rfl (fun K hK => ?_) (AllReadyH.cons (o := ({ dst := some 33, op := Op.makeSlice 30 (Operand.tmp 32) (Operand.tmp 32), type := 30, pos := "l06_ssa.go:114", after := #[{ on := 10, ground := Ground.data }, { on := 10, ground := Ground.data }], guard := none } : Oper)) rfl (fun K hK => ?_) AllReadyH.nil))
        | ((with_reducible refine gateH ?_); refine wpAnyH_ready (rs := [5, 12]) (by decide +kernel) (by simp) ?_; refine AllReadyH.cons (o := ({ dst := some 27, op := Op.makeSlice 30 (Operand.tmp 26) (Operand.tmp 26), type := 30, pos := "l06_ssa.go:114", after := #[{ on := 4, ground := Ground.data }, { on := 4, ground := Ground.data }], guard := none } : Oper)) rfl (fun K hK => ?_) (AllReadyH.cons (o := ({ dst := some 5, op := Op.alloc 30, type := 0, pos := "l06_ssa.go:114", after := #[], guard := none } : Oper)) rfl (fun K hK => ?_) AllReadyH.nil))
        | ((with_reducible refine gateH ?_); refine wpAnyH_ready (rs := [5, 13]) (by decide +kernel) (by simp) ?_; refine AllReadyH.cons (o := ({ dst := some 27, op := Op.makeSlice 30 (Operand.tmp 26) (Operand.tmp 26), type := 30, pos := "l06_ssa.go:114", after := #[{ on := 4, ground := Ground.data }, { on := 4, ground := Ground.data }], guard := none } : Oper)) rfl (fun K hK => ?_) (AllReadyH.cons (o := ({ dst := some 6, op := Op.alloc 30, type := 0, pos := "l06_ssa.go:114", after := #[], guard := none } : Oper)) rfl (fun K hK => ?_) AllReadyH.nil))
        | ((with_reducible refine gateH ?_); refine wpAnyH_ready (rs := [11, 12]) (by decide +kernel) (by simp) ?_; refine AllReadyH.cons (o := ({ dst := some 33, op := Op.makeSlice 30 (Operand.tmp 32) (Operand.tmp 32), type := 30, pos := "l06_ssa.go:114", after := #[{ on := 10, ground := Ground.data }, { on := 10, ground := Ground.data }], guard := none } : Oper)) rfl (fun K hK => ?_) (AllReadyH.cons (o := ({ dst := some 5, op := Op.alloc 30, type := 0, pos := "l06_ssa.go:114", after := #[], guard := none } : Oper)) rfl (fun K hK => ?_) AllReadyH.nil))
        | ((with_reducible refine gateH ?_); refine wpAnyH_ready (rs := [11, 13]) (by decide +kernel) (by simp) ?_; refine AllReadyH.cons (o := ({ dst := some 33, op := Op.makeSlice 30 (Operand.tmp 32) (Operand.tmp 32), type := 30, pos := "l06_ssa.go:114", after := #[{ on := 10, ground := Ground.data }, { on := 10, ground := Ground.data }], guard := none } : Oper)) rfl (fun K hK => ?_) (AllReadyH.cons (o := ({ dst := some 6, op := Op.alloc 30, type := 0, pos := "l06_ssa.go:114", after := #[], guard := none } : Oper)) rfl (fun K hK => ?_) AllReadyH.nil))
        | ((with_reducible refine gateH ?_); refine wpAnyH_ready (rs := [11, 14]) (by decide +kernel) (by simp) ?_; refine AllReadyH.cons (o := ({ dst := some 33, op := Op.makeSlice 30 (Operand.tmp 32) (Operand.tmp 32), type := 30, pos := "l06_ssa.go:114", after := #[{ on := 10, ground := Ground.data }, { on := 10, ground := Ground.data }], guard := none } : Oper)) rfl (fun K hK => ?_) (AllReadyH.cons (o := ({ dst := none, op := Op.store 30 (Operand.tmp 5) (Operand.tmp 27), type := 0, pos := "l06_ssa.go:114", after := #[{ on := 12, ground := Ground.data }, { on := 5, ground := Ground.data }, { on := 0, ground := Ground.phase }, { on := 1, ground := Ground.phase }, { on := 2, ground := Ground.phase }, { on := 3, ground := Ground.phase }, { on := 4, ground := Ground.phase }, { on := 5, ground := Ground.phase }, { on := 6, ground := Ground.textOnly Departure.lateStores }, { on := 7, ground := Ground.textOnly Departure.lateStores }, { on := 8, ground := Ground.textOnly Departure.lateStores }, { on := 9, ground := Ground.textOnly Departure.lateStores }, { on := 10, ground := Ground.textOnly Departure.lateStoresUnsure }, { on := 11, ground := Ground.textOnly Departure.lateStoresUnsure }, { on := 12, ground := Ground.phase }, { on := 13, ground := Ground.phase }], guard := none } : Oper)) rfl (fun K hK => ?_) AllReadyH.nil))
        | ((with_reducible refine gateH ?_); refine wpAnyH_ready (rs := [12, 13]) (by decide +kernel) (by simp) ?_; refine AllReadyH.cons (o := ({ dst := some 5, op := Op.alloc 30, type := 0, pos := "l06_ssa.go:114", after := #[], guard := none } : Oper)) rfl (fun K hK => ?_) (AllReadyH.cons (o := ({ dst := some 6, op := Op.alloc 30, type := 0, pos := "l06_ssa.go:114", after := #[], guard := none } : Oper)) rfl (fun K hK => ?_) AllReadyH.nil))
        | ((with_reducible refine gateH ?_); refine wpAnyH_ready (rs := [5]) (by decide +kernel) (by simp) ?_; refine AllReadyH.cons (o := ({ dst := some 27, op := Op.makeSlice 30 (Operand.tmp 26) (Operand.tmp 26), type := 30, pos := "l06_ssa.go:114", after := #[{ on := 4, ground := Ground.data }, { on := 4, ground := Ground.data }], guard := none } : Oper)) rfl (fun K hK => ?_) AllReadyH.nil)
        | ((with_reducible refine gateH ?_); refine wpAnyH_ready (rs := [11]) (by decide +kernel) (by simp) ?_; refine AllReadyH.cons (o := ({ dst := some 33, op := Op.makeSlice 30 (Operand.tmp 32) (Operand.tmp 32), type := 30, pos := "l06_ssa.go:114", after := #[{ on := 10, ground := Ground.data }, { on := 10, ground := Ground.data }], guard := none } : Oper)) rfl (fun K hK => ?_) AllReadyH.nil)
        | ((with_reducible refine gateH ?_); refine wpAnyH_ready (rs := [12]) (by decide +kernel) (by simp) ?_; refine AllReadyH.cons (o := ({ dst := some 5, op := Op.alloc 30, type := 0, pos := "l06_ssa.go:114", after := #[], guard := none } : Oper)) rfl (fun K hK => ?_) AllReadyH.nil)
        | ((with_reducible refine gateH ?_); refine wpAnyH_ready (rs := [13]) (by decide +kernel) (by simp) ?_; refine AllReadyH.cons (o := ({ dst := some 6, op := Op.alloc 30, type := 0, pos := "l06_ssa.go:114", after := #[], guard := none } : Oper)) rfl (fun K hK => ?_) AllReadyH.nil)
        | ((with_reducible refine gateH ?_); refine wpAnyH_ready (rs := [14]) (by decide +kernel) (by simp) ?_; refine AllReadyH.cons (o := ({ dst := none, op := Op.store 30 (Operand.tmp 5) (Operand.tmp 27), type := 0, pos := "l06_ssa.go:114", after := #[{ on := 12, ground := Ground.data }, { on := 5, ground := Ground.data }, { on := 0, ground := Ground.phase }, { on := 1, ground := Ground.phase }, { on := 2, ground := Ground.phase }, { on := 3, ground := Ground.phase }, { on := 4, ground := Ground.phase }, { on := 5, ground := Ground.phase }, { on := 6, ground := Ground.textOnly Departure.lateStores }, { on := 7, ground := Ground.textOnly Departure.lateStores }, { on := 8, ground := Ground.textOnly Departure.lateStores }, { on := 9, ground := Ground.textOnly Departure.lateStores }, { on := 10, ground := Ground.textOnly Departure.lateStoresUnsure }, { on := 11, ground := Ground.textOnly Departure.lateStoresUnsure }, { on := 12, ground := Ground.phase }, { on := 13, ground := Ground.phase }], guard := none } : Oper)) rfl (fun K hK => ?_) AllReadyH.nil)
        | ((with_reducible refine gateH ?_); refine wpAnyH_ready (rs := [15]) (by decide +kernel) (by simp) ?_; refine AllReadyH.cons (o := ({ dst := none, op := Op.store 30 (Operand.tmp 6) (Operand.tmp 33), type := 0, pos := "l06_ssa.go:114", after := #[{ on := 13, ground := Ground.data }, { on := 11, ground := Ground.data }, { on := 14, ground := Ground.chain }, { on := 0, ground := Ground.phase }, { on := 1, ground := Ground.phase }, { on := 2, ground := Ground.phase }, { on := 3, ground := Ground.phase }, { on := 4, ground := Ground.phase }, { on := 5, ground := Ground.phase }, { on := 6, ground := Ground.phase }, { on := 7, ground := Ground.phase }, { on := 8, ground := Ground.phase }, { on := 9, ground := Ground.phase }, { on := 10, ground := Ground.phase }, { on := 11, ground := Ground.phase }, { on := 12, ground := Ground.phase }, { on := 13, ground := Ground.phase }, { on := 14, ground := Ground.phase }], guard := none } : Oper)) rfl (fun K hK => ?_) AllReadyH.nil)
        | ((with_reducible refine gateH ?_); refine wpAnyH_done ?hr ?_ _; (case hr => decide +kernel); go_wp2; go_meet; (case rel => exact ⟨g5, g6, Aa, ca, Ab, cb, rfl, rfl, Lib.hid ⟨HX5.out, HX6.out, by rw [← tab_rep]; exact Kd.R_reok rfl HRa.out (fun k hk e => HNe.out k hk e.symm), by rw [← tab_rep]; exact Kd.R_reok rfl HRb.out (fun k hk e => HNe.out k e.symm hk), HB.out⟩⟩))
        | (refine Kd.R_make_step (Kd.int .i64) (w0 := w2) w2.heap.size 3 (by rfl) (N := 27) rfl 30 _ _ rfl (B.length : Int) rfl rfl Try.underlying30 (.int .i64 0) 8 info3 rfl (by decide) (by omega) 0 (ok := fun _ => True) (okp := fun _ => True) rfl (fun _ hk => hk) trivial (by omega) (by omega) HB.out HB.out.size ?_; intro v27 W1 ho hb hg hnew; rw [Int.toNat_natCast] at ho; obtain ⟨Aa, ca, ea⟩ := Kd.R_slice ho; rw [List.length_replicate] at ea; subst ea; (try (have HNe := Lib.hid (show ∀ k, (Value.slice Aa B.length ca).ownBlock = some k → (Value.slice Ab B.length cb).ownBlock = some k → False from fun k h1 h2 => by obtain ⟨b, hb1, hb2⟩ := hnew; have h3 := Kd.R_lt HRb.out k h2; rw [hb1] at h1; injection h1 with h1; omega))); (try (have Hx := Lib.hid (Kd.R_grown HRb.out hg (fun _ _ e => by cases e)); clear HRb; have HRb := Hx; clear Hx)); (try (have Hx := Lib.hid (blk_grown HX5.out hg (fun e => by cases e)); clear HX5; have HX5 := Hx; clear Hx)); (try (have Hx := Lib.hid (blk_grown HX6.out hg (fun e => by cases e)); clear HX6; have HX6 := Hx; clear Hx)); have HRa := Lib.hid ho; clear HB; have HB := Lib.hid hb; clear ho hb hg hnew; refine hK.out _ _ (pw_cell_below HB.out Y2.out) (fun hHeld => ?_); clear hK K hHeld; (try simp only [Act.put, List.setIfInBounds_toArray, List.set_cons_zero, List.set_cons_succ]))
        | (refine Kd.R_make_step (Kd.int .i64) (w0 := w2) w2.heap.size 3 (by rfl) (N := 33) rfl 30 _ _ rfl (B.length : Int) rfl rfl Try.underlying30 (.int .i64 0) 8 info3 rfl (by decide) (by omega) 0 (ok := fun _ => True) (okp := fun _ => True) rfl (fun _ hk => hk) trivial (by omega) (by omega) HB.out HB.out.size ?_; intro v33 W1 ho hb hg hnew; rw [Int.toNat_natCast] at ho; obtain ⟨Ab, cb, eb⟩ := Kd.R_slice ho; rw [List.length_replicate] at eb; subst eb; (try (have HNe0 := Lib.hid (show ∀ k, (Value.slice Ab B.length cb).ownBlock = some k → (Value.slice Aa B.length ca).ownBlock = some k → False from fun k h1 h2 => by obtain ⟨b, hb1, hb2⟩ := hnew; have h3 := Kd.R_lt HRa.out k h2; rw [hb1] at h1; injection h1 with h1; omega))); (try (have HNe := Lib.hid (fun k h1 h2 => HNe0.out k h2 h1); clear HNe0)); (try (have Hx := Lib.hid (Kd.R_grown HRa.out hg (fun _ _ e => by cases e)); clear HRa; have HRa := Hx; clear Hx)); (try (have Hx := Lib.hid (blk_grown HX5.out hg (fun e => by cases e)); clear HX5; have HX5 := Hx; clear Hx)); (try (have Hx := Lib.hid (blk_grown HX6.out hg (fun e => by cases e)); clear HX6; have HX6 := Hx; clear Hx)); have HRb := Lib.hid ho; clear HB; have HB := Lib.hid hb; clear ho hb hg hnew; refine hK.out _ _ (pw_cell_below HB.out Y2.out) (fun hHeld => ?_); clear hK K hHeld; (try simp only [Act.put, List.setIfInBounds_toArray, List.set_cons_zero, List.set_cons_succ]))
        | (refine box_step (by rfl) (N := 5) rfl (cs := #[.slice none 0 0]) (t := 30) ?hr ?_; (case hr => first | (go_simp; done) | (go_simp; rfl)); intro g5 eg W1 hbox hb; have HG5 := Lib.hid (show w2.heap.size ≤ g5 from by rw [eg]; exact HB.out.size); (try (have HNg := Lib.hid (show g5 ≠ g6 from fun e => by have h3 := blk_lt HX6.out; omega))); (try (have Hx := Lib.hid (Kd.R_below HRa.out hb); clear HRa; have HRa := Hx; clear Hx)); (try (have Hx := Lib.hid (Kd.R_below HRb.out hb); clear HRb; have HRb := Hx; clear Hx)); (try (have Hx := Lib.hid (blk_below HX6.out hb); clear HX6; have HX6 := Hx; clear Hx)); have HX5 := Lib.hid hbox; have HB2 := Lib.hid (below_step HB.out hb HB.out.size); clear HB; have HB := HB2; clear HB2 hbox hb eg; refine hK.out _ _ (pw_cell_below HB.out Y2.out) (fun hHeld => ?_); clear hK K hHeld; (try simp only [Act.put, List.setIfInBounds_toArray, List.set_cons_zero, List.set_cons_succ]))
        | (refine box_step (by rfl) (N := 6) rfl (cs := #[.slice none 0 0]) (t := 30) ?hr ?_; (case hr => first | (go_simp; done) | (go_simp; rfl)); intro g6 eg W1 hbox hb; have HG6 := Lib.hid (show w2.heap.size ≤ g6 from by rw [eg]; exact HB.out.size); (try (have HNg := Lib.hid (show g6 ≠ g5 from fun e => by have h3 := blk_lt HX5.out; omega))); (try (have Hx := Lib.hid (Kd.R_below HRa.out hb); clear HRa; have HRa := Hx; clear Hx)); (try (have Hx := Lib.hid (Kd.R_below HRb.out hb); clear HRb; have HRb := Hx; clear Hx)); (try (have Hx := Lib.hid (blk_below HX5.out hb); clear HX5; have HX5 := Hx; clear Hx)); have HX6 := Lib.hid hbox; have HB2 := Lib.hid (below_step HB.out hb HB.out.size); clear HB; have HB := HB2; clear HB2 hbox hb eg; refine hK.out _ _ (pw_cell_below HB.out Y2.out) (fun hHeld => ?_); clear hK K hHeld; (try simp only [Act.put, List.setIfInBounds_toArray, List.set_cons_zero, List.set_cons_succ]))
        | (have z5 := (blk_cell HX5.out 0).trans rfl; have f5 := blk_frozen HX5.out 0; go_simp; generalize hW : World.setCell _ ⟨g5, 0, none⟩ _ = W1; clear z5 f5; (try (have Hx := Lib.hid (Kd.R_set HRa.out HX5.out (by decide) 0 (.slice Aa B.length ca)); rw [hW] at Hx; clear HRa; have HRa := Hx; clear Hx)); (try (have Hx := Lib.hid (Kd.R_set HRb.out HX5.out (by decide) 0 (.slice Aa B.length ca)); rw [hW] at Hx; clear HRb; have HRb := Hx; clear Hx)); (first | (have Hx := Lib.hid ((Below.heap_setCell _ ⟨g5, 0, none⟩ (.slice Aa B.length ca) g6 (by intro e; exact HNg.out (by first | exact e | exact e.symm))).trans HX6.out); rw [hW] at Hx; clear HX6; have HX6 := Hx; clear Hx)); have Hx := Lib.hid (blk_set HX5.out 0 (.slice Aa B.length ca)); rw [hW] at Hx; clear HX5; have HX5 := Hx; clear Hx; have Hx := Lib.hid (below_set HB.out HG5.out (j := 0) (v := .slice Aa B.length ca)); rw [hW] at Hx; clear HB; have HB := Hx; clear Hx hW; refine hK.out _ _ (pw_cell_below HB.out Y2.out) (fun hHeld => ?_); clear hK K hHeld; (try simp only [Act.put, List.setIfInBounds_toArray, List.set_cons_zero, List.set_cons_succ]))
        | (have z5 := (blk_cell HX6.out 0).trans rfl; have f5 := blk_frozen HX6.out 0; go_simp; generalize hW : World.setCell _ ⟨g6, 0, none⟩ _ = W1; clear z5 f5; (try (have Hx := Lib.hid (Kd.R_set HRa.out HX6.out (by decide) 0 (.slice Ab B.length cb)); rw [hW] at Hx; clear HRa; have HRa := Hx; clear Hx)); (try (have Hx := Lib.hid (Kd.R_set HRb.out HX6.out (by decide) 0 (.slice Ab B.length cb)); rw [hW] at Hx; clear HRb; have HRb := Hx; clear Hx)); (first | (have Hx := Lib.hid ((Below.heap_setCell _ ⟨g6, 0, none⟩ (.slice Ab B.length cb) g5 (by intro e; exact HNg.out (by first | exact e | exact e.symm))).trans HX5.out); rw [hW] at Hx; clear HX5; have HX5 := Hx; clear Hx)); have Hx := Lib.hid (blk_set HX6.out 0 (.slice Ab B.length cb)); rw [hW] at Hx; clear HX6; have HX6 := Hx; clear Hx; have Hx := Lib.hid (below_set HB.out HG6.out (j := 0) (v := .slice Ab B.length cb)); rw [hW] at Hx; clear HB; have HB := Hx; clear Hx hW; refine hK.out _ _ (pw_cell_below HB.out Y2.out) (fun hHeld => ?_); clear hK K hHeld; (try simp only [Act.put, List.setIfInBounds_toArray, List.set_cons_zero, List.set_cons_succ])))
  case rest =>
    obtain ⟨g5, g6, Aa, ca, Ab, cb, rfl, rfl, HD⟩ := hcut
    clear y4
    have hLin : ∀ j, j < L.length → at' L j < B.length := fun j hj => at_lt HO.out hj
    have HLin := Lib.hid hLin
    clear Y2 hLin
    go_upto_region 3 with fail
    have y6 := (blk_cell HD.out.h6 0).trans rfl
    go_wp2
    clear y6
    go_loopw [7, 36] (fun v7 v36 wr => ∃ (i : Nat) (fo : Nat → Int), v36 = .int .i64 i ∧ i ≤ B.length ∧ Hid (∀ j, j < i → fo j = -2) ∧ Hid (DMem w2 wr B.length g5 g6 Aa ca Ab cb (fun _ => 0) fo)) (fun _ v36 _ => (B.length - intOf v36).toNat)
    case atStart => exact ⟨0, _, rfl, by omega, Lib.hid (fun j hj => by omega), HD⟩
    case round =>
      clear HD
      obtain ⟨i, fo, rfl, hi, HF, HD⟩ := hrel
      by_cases hlt : i < B.length
      · obtain ⟨gB, eB⟩ := HD.out.pb (by omega)
        subst eB
        obtain ⟨z6, f6⟩ := HD.out.cb_ hlt
        have y6 := (blk_cell HD.out.h6 0).trans rfl
        have p0 : (0 : Int) ≤ (i : Int) := by omega
        have p1 : (i : Int) < (B.length : Int) := by omega
        go_wp2
        go_roundw
        case rel => exact ⟨i + 1, put fo i (-2), by go_num, by omega, Lib.hid (put_m2 HF.out), Lib.hid (HD.out.setO i (-2) rfl)⟩
        case measure => simp [intOf]; omega
      · have HD2 := Lib.hid (HD.out.eq (fr' := fun _ => 0) (fo' := fun _ => -2) (fun _ _ => rfl) (fun v hv => HF.out v (by omega)))
        clear HD HF
        go_wp2
        go_loopw [8, 9, 45] (fun v8 v9 v45 wr => ∃ (i : Nat) (fr : Nat → Int), v45 = .int .i64 i ∧ i ≤ L.length ∧ Hid (∀ j, j < i → fr (at' L j) = (j : Int)) ∧ Hid (DMem w2 wr B.length g5 g6 Aa ca Ab cb fr (fun _ => -2))) (fun _ _ v45 _ => (L.length - intOf v45).toNat)
        case atStart => exact ⟨0, _, rfl, by omega, Lib.hid (fun j hj => by omega), HD2⟩
        case round =>
          clear HD2
          obtain ⟨i, fr, rfl, hi, HF, HD⟩ := hrel
          by_cases hlt : i < L.length
          · have hb := HLin.out i hlt
            obtain ⟨gA, eA⟩ := HD.out.pa (by omega)
            subst eA
            obtain ⟨ad, ea, x3⟩ := Kd.at_int HL2.out (i : Int) (by omega) (by omega)
            subst ea
            rw [Int.toNat_natCast, ints_at _ _ hlt] at x3
            replace x3 := pw_cell_below HD.out.hb x3
            obtain ⟨z5, f5⟩ := HD.out.ca_ hb
            have y5 := (blk_cell HD.out.h5 0).trans rfl
            have HLt := Lib.hid hlt
            generalize hbb : at' L i = b at hb x3 z5 f5
            have HBb := Lib.hid hbb
            clear hbb
            have p0 : (0 : Int) ≤ (i : Int) := by omega
            have p1 : (i : Int) < (L.length : Int) := by omega
            have p2 : (0 : Int) ≤ (b : Int) := by omega
            have p3 : (b : Int) < (B.length : Int) := by omega
            go_wp2
            go_roundw
            case rel => exact ⟨i + 1, put fr b (i : Int), by go_num, by omega, Lib.hid (fun j hj => by
              unfold put
              have h1 := HBb.out
              have h2 := HLt.out
              by_cases e : j = i
              · subst e; rw [if_pos h1]
              · rw [if_neg (fun e2 => e (at_inj HO.out (by omega) h2 (by rw [e2, h1])))]; exact HF.out j (by omega)), Lib.hid (HD.out.setR b (i : Int) rfl)⟩
            case measure => simp [intOf]; omega
          · have HRk : Hid (Ranks L B.length fr) := Lib.hid (ranks HO.out (fun j hj => HF.out j (by omega)))
            have HOu := Lib.hid (Outs.start L B.length)
            clear HF
            go_wp2
            go_loopg [11] (wt L.length 0 (fun _ => 0) L.length + 1) (fun kq v11 wr => ∃ (ag : Bool) (P : Nat) (o : Nat → Nat) (fo : Nat → Int), v11 = .bool ag ∧ Hid ((if ag = true then wt L.length P o L.length + 1 else 0) = kq) ∧ Hid (Begin (E B) L P o) ∧ Hid (Outs L B.length P o fo) ∧ Hid (ag = false → L.length = 0 ∨ ∃ W0, P = L.length ∧ Pass (E B) L L.length false L.length o W0) ∧ Hid (DMem w2 wr B.length g5 g6 Aa ca Ab cb fr fo))
            case atStart => exact ⟨true, 0, _, _, rfl, Lib.hid rfl, Lib.hid ⟨rfl, .inl rfl⟩, HOu, Lib.hid (fun h => by cases h), HD⟩
            case round =>
              clear HD HOu
              obtain ⟨ag, P, o, fo, rfl, HK, HBe, HOu, HFi, HD⟩ := hrel
              cases ag
              · have hfi := HFi.out rfl
                have HFi2 := Lib.hid hfi
                clear hfi HFi HK
                go_upto_region 34 with fail
                have y6 := (blk_cell HD.out.h6 0).trans rfl
                go_wp2
                clear y6
                go_loopw [17, 110] (fun v17 v110 wr => ∃ (i : Nat) (f : Nat → Int), v110 = .int .i64 i ∧ i ≤ B.length ∧ Hid (∀ v, f v = if v < i then (if v = 0 ∨ fo v = -2 then -1 else fo v) else fo v) ∧ Hid (DMem w2 wr B.length g5 g6 Aa ca Ab cb fr f)) (fun _ v110 _ => (B.length - intOf v110).toNat)
                case atStart => exact ⟨0, fo, rfl, by omega, Lib.hid (fun v => by rw [if_neg (Nat.not_lt_zero v)]), HD⟩
                case round =>
                  clear HD
                  obtain ⟨i, f, rfl, hi, HF, HD⟩ := hrel
                  by_cases hlt : i < B.length
                  · obtain ⟨gB, eB⟩ := HD.out.pb (by omega)
                    subst eB
                    obtain ⟨z6, f6⟩ := HD.out.cb_ hlt
                    have y6 := (blk_cell HD.out.h6 0).trans rfl
                    have hfi : f i = fo i := by rw [HF.out i, if_neg (Nat.lt_irrefl i)]
                    rw [hfi] at z6
                    have p0 : (0 : Int) ≤ (i : Int) := by omega
                    have p1 : (i : Int) < (B.length : Int) := by omega
                    clear hfi
                    by_cases hz : i = 0
                    · have d1 : ((i : Int) == 0) = true := beq_iff_eq.2 (by omega)
                      have HZ := Lib.hid hz
                      clear hz
                      go_wp2
                      go_roundw
                      case rel => exact ⟨i + 1, put f i (-1), by go_num, by omega, Lib.hid (fin_put HF.out (.inl HZ.out)), Lib.hid (HD.out.setO i (-1) rfl)⟩
                      case measure => simp [intOf]; omega
                    · have d1 : ((i : Int) == 0) = false := beq_eq_false_iff_ne.2 (by omega)
                      by_cases hu : fo i = -2
                      · have HU := Lib.hid hu
                        rw [hu] at z6
                        clear hu hz
                        go_wp2
                        go_roundw
                        case rel => exact ⟨i + 1, put f i (-1), by go_num, by omega, Lib.hid (fin_put HF.out (.inr HU.out)), Lib.hid (HD.out.setO i (-1) rfl)⟩
                        case measure => simp [intOf]; omega
                      · have d2 : (fo i == -2) = false := beq_eq_false_iff_ne.2 hu
                        have HU : Hid (¬ (i = 0 ∨ fo i = -2)) := Lib.hid (fun h => h.elim hz hu)
                        clear hu hz
                        go_wp2
                        go_roundw
                        case rel => exact ⟨i + 1, f, by go_num, by omega, Lib.hid (fin_same HF.out HU.out), HD⟩
                        case measure => simp [intOf]; omega
                  · have y6 := (blk_cell HD.out.h6 0).trans rfl
                    have hin : i = B.length := by omega
                    have HIn := Lib.hid hin
                    clear hin
                    go_wp2
                    go_ret
                    refine ⟨_, tab B.length f, rfl, ?_, ?_, Kd.R_lower (Kd.R_mono HD.out.rb (fun _ _ => trivial)) HB2.out.size, below_step HB2.out HD.out.hb HB2.out.size⟩
                    · exact fin_is HO.out HE.out HFi2.out HOu.out (fun v hv => by rw [HF.out v, if_pos (by have := HIn.out; omega)])
                    · exact fin_tot HO.out HE.out HFi2.out
              · clear HFi
                have HK2 : Hid (wt L.length P o L.length + 1 = gk) := Lib.hid (by have h := HK.out; rwa [if_pos rfl] at h)
                clear HK
                go_wp2
                go_loopw [11, 59] (fun v11 v59 wr => ∃ (c : Nat) (ag : Bool) (P' : Nat) (o' : Nat → Nat) (fo' : Nat → Int), v11 = .bool ag ∧ v59 = .int .i64 c ∧ c ≤ L.length ∧ Hid ((c = 0 ∧ ag = false ∧ P' = P ∧ o' = o) ∨ (0 < c ∧ Pass (E B) L c ag P' o' (wt L.length P o L.length))) ∧ Hid (Outs L B.length P' o' fo') ∧ Hid (DMem w2 wr B.length g5 g6 Aa ca Ab cb fr fo')) (fun _ v59 _ => (L.length - intOf v59).toNat)
                case atStart => exact ⟨0, false, P, o, fo, rfl, rfl, by omega, Lib.hid (.inl ⟨rfl, rfl, rfl, rfl⟩), HOu, HD⟩
                case round =>
                  clear HD HOu
                  obtain ⟨c, ag, P', o', fo', rfl, rfl, hc, HPa, HOu, HD⟩ := hrel
                  by_cases hlt : c < L.length
                  · have hb := HLin.out c hlt
                    obtain ⟨gA, eA⟩ := HD.out.pa (by omega)
                    obtain ⟨gB, eB⟩ := HD.out.pb (by omega)
                    subst eA
                    subst eB
                    obtain ⟨ad, ea, x3⟩ := Kd.at_int HL2.out (c : Int) (by omega) (by omega)
                    subst ea
                    rw [Int.toNat_natCast, ints_at _ _ hlt] at x3
                    replace x3 := pw_cell_below HD.out.hb x3
                    have HLt := Lib.hid hlt
                    obtain ⟨z6, f6⟩ := HD.out.cb_ hb
                    have y6 := (blk_cell HD.out.h6 0).trans rfl
                    obtain ⟨b, hbb⟩ : ∃ b, b = at' L c := ⟨_, rfl⟩
                    rw [← hbb] at hb x3 z6 f6
                    have HBb := Lib.hid hbb
                    clear hbb
                    have p0 : (0 : Int) ≤ (c : Int) := by omega
                    have p1 : (c : Int) < (L.length : Int) := by omega
                    have p2 : (0 : Int) ≤ (b : Int) := by omega
                    have p3 : (b : Int) < (B.length : Int) := by omega
                    by_cases hz : c = 0
                    · have d1 : ((c : Int) == 0) = true := beq_iff_eq.2 (by omega)
                      have hpa : ag = false ∧ P' = P ∧ o' = o := HPa.out.elim (fun h => h.2) (fun h => by omega)
                      obtain ⟨e1, e2, e3⟩ := hpa
                      subst e1 e2 e3
                      have HZ := Lib.hid hz
                      clear hz HPa
                      go_wp2
                      go_roundw
                      case rel => exact ⟨c + 1, false, _, o', put fo' b (b : Int), rfl, by go_num, by omega, Lib.hid (.inr ⟨by omega, by have h := Pass.start HBe.out (by have := HLt.out; omega); rw [HZ.out]; exact h⟩), Lib.hid (by have h := HOu.out.root HO.out HBe.out.1 (by have := HLt.out; omega); have h2 := HBb.out; rw [HZ.out] at h2; rw [h2]; exact h), Lib.hid (HD.out.setO b (b : Int) rfl)⟩
                      case measure => simp [intOf]; omega
                    · have d1 : ((c : Int) == 0) = false := beq_eq_false_iff_ne.2 (by omega)
                      have hpa : Pass (E B) L c ag P' o' (wt L.length P o L.length) := HPa.out.elim (fun h => absurd h.1 hz) (fun h => h.2)
                      have HPs := Lib.hid hpa
                      have HZ := Lib.hid (Nat.pos_of_ne_zero hz)
                      clear hz hpa HPa
                      obtain ⟨ad4, A6, c6, e4, x4, hq1, hq2⟩ := at_L2 HQ.out (b : Int) (by omega) (by omega)
                      subst e4
                      rw [Int.toNat_natCast] at x4
                      have eq4 : rd_L2 (prow Pr) (b : Int) = ints (Pr.getD b []) := by unfold rd_L2; rw [Int.toNat_natCast, prow_get]
                      rw [eq4] at x4 hq1 hq2
                      rw [ints_len] at x4 hq1 hq2
                      replace x4 := pw_cell_below HD.out.hb x4
                      have HQs : Hid ((Pr.getD b []).length ≤ 838860800) := Lib.hid (HP.out.2.2 b)
                      have HQm : Hid (∀ u, u ∈ Pr.getD b [] ↔ u < B.length ∧ at' L c ∈ E B u) := Lib.hid (fun u => by rw [← HBb.out]; exact HP.out.2.1 b (by omega) u)
                      have HQc := Lib.hid hq2
                      clear eq4 hq1 hq2
                      obtain ⟨Q, hQ⟩ : ∃ Q, Q = Pr.getD b [] := ⟨_, rfl⟩
                      rw [← hQ] at x4 HQs HQm HQc
                      have hqs : Q.length ≤ 838860800 := HQs.out
                      clear hQ z6 f6 y6
                      go_wp2
                      clear x4 x3
                      go_loopw [14, 75] (fun v14 v75 wr => ∃ (k : Nat) (x : Int), v14 = .int .i64 x ∧ v75 = .int .i64 k ∧ k ≤ Q.length ∧ Hid (NearSt L P' o' Q k x) ∧ Hid (DMem w2 wr B.length g5 g6 (some ⟨gA, 0, none⟩) ca (some ⟨gB, 0, none⟩) cb fr fo')) (fun _ v75 _ => (Q.length - intOf v75).toNat)
                      case atStart => exact ⟨0, -2, rfl, rfl, by omega, Lib.hid (NearSt.start P' o' Q), HD⟩
                      case round =>
                        clear HD
                        obtain ⟨k, x, rfl, rfl, hk, HN, HD⟩ := hrel
                        have y6 := (blk_cell HD.out.h6 0).trans rfl
                        by_cases hkl : k < Q.length
                        · obtain ⟨ad5, e5, x5⟩ := Kd.at_int HQc.out (k : Int) (by omega) (by omega)
                          subst e5
                          have hqk : Q[k]? = some (Q.getD k 0) := by rw [List.getD_eq_getElem?_getD, List.getElem?_eq_getElem hkl]; rfl
                          rw [Int.toNat_natCast, ints_get Q k _ hqk] at x5
                          obtain ⟨q, hq⟩ : ∃ q, q = Q.getD k 0 := ⟨_, rfl⟩
                          rw [← hq] at x5 hqk
                          have hqn : q < B.length := ((HQm.out q).1 (List.mem_of_getElem? hqk)).1
                          replace x5 := pw_cell_below HD.out.hb x5
                          have z6 := (HD.out.cb_ hqn).1
                          have HQk := Lib.hid hqk
                          have p4 : (0 : Int) ≤ (k : Int) := by omega
                          have p5 : (k : Int) < (Q.length : Int) := by omega
                          have p6 : (0 : Int) ≤ (q : Int) := by omega
                          have p7 : (q : Int) < (B.length : Int) := by omega
                          clear hqk hq
                          rcases HOu.out.old hqn with ⟨hu, hno⟩ | ⟨hu, pq, hpq, epq⟩
                          · rw [hu] at z6
                            have HNo := Lib.hid hno
                            clear hno hu
                            go_wp2
                            go_roundw
                            case rel => exact ⟨k + 1, x, rfl, by go_num, by omega, Lib.hid (HN.out.skip HQk.out HNo.out), HD⟩
                            case measure => simp [intOf]; omega
                          · have d4 : (fo' q == -2) = false := beq_eq_false_iff_ne.2 hu
                            have HPq := Lib.hid hpq
                            have HEq := Lib.hid epq
                            clear hu hpq epq
                            by_cases hx : x = -2
                            · subst hx
                              go_wp2
                              go_roundw
                              case rel => exact ⟨k + 1, (q : Int), rfl, by go_num, by omega, Lib.hid (by have h := HQk.out; have e := HEq.out; rw [← e] at h; have h2 := HN.out.first HO.out HOu.out.le h HPq.out; rw [e] at h2; exact h2), HD⟩
                              case measure => simp [intOf]; omega
                            · obtain ⟨z, hz, ez⟩ := HN.out.set hx
                              have HZz := Lib.hid hz
                              obtain ⟨a, ha⟩ : ∃ a, a = at' L z := ⟨_, rfl⟩
                              rw [← ha] at ez
                              subst ez
                              have HAa := Lib.hid ha
                              have d5 : ((a : Int) == -2) = false := beq_eq_false_iff_ne.2 (by omega)
                              have HT : Hid (Tree o' P') := Lib.hid HPs.out.inv.T
                              clear hx hz ha
                              go_wp2_with (go_at_call 41; refine (meet_v w2 B.length g5 g6 (some ⟨gA, 0, none⟩) ca (some ⟨gB, 0, none⟩) cb fr fo' L P' o' z pq a q HAa.out HEq.out _ HD.out HRk.out HOu.out HT.out HZz.out HPq.out (by omega)).mono ?_; rintro e w9 ⟨rfl, hb⟩; have HD9 := Lib.hid (HD.out.keep hb); clear hb)
                              go_roundw
                              case rel => exact ⟨k + 1, _, rfl, by go_num, by omega, Lib.hid (by have h := HQk.out; have e := HEq.out; rw [← e] at h; have h3 := HN.out; rw [HAa.out] at h3; exact (NearSt.meet HO.out HOu.out.le HT.out HZz.out h3 h HPq.out).1), HD9⟩
                              case measure => simp [intOf]; omega
                        · obtain rfl : k = Q.length := by omega
                          obtain ⟨z, hz, ez, hzz⟩ := NearSt.done HO.out HQm.out HN.out HZ.out HLt.out HPs.out.lo HPs.out.hi
                          obtain ⟨a, ha⟩ : ∃ a, a = at' L z := ⟨_, rfl⟩
                          rw [← ha] at ez
                          subst ez
                          have HAa := Lib.hid ha
                          have HZz := Lib.hid hzz
                          have HZl := Lib.hid hz
                          obtain ⟨z6, f6⟩ := HD.out.cb_ hb
                          clear hz ha hzz
                          have HCh : Hid (fo' b = (a : Int) ↔ (c < P' ∧ z = o' c)) := Lib.hid (by rw [HBb.out, HAa.out]; exact changed HO.out HOu.out HLt.out HPs.out.lo HZl.out)
                          cases ag
                          · by_cases hch : (a : Int) = fo' b
                            · have d6 : ((a : Int) != fo' b) = false := bne_eq_false_iff_eq.2 hch
                              have HN2 := Lib.hid (HPs.out.next HO.out HZ.out HLt.out HZz.out false ⟨fun h => (by cases h), fun h => absurd (HCh.out.1 hch.symm) h⟩)
                              clear hch
                              go_wp2
                              go_roundw
                              case rel => exact ⟨c + 1, false, _, upd o' c z, put fo' b (a : Int), rfl, by go_num, by omega, Lib.hid (.inr ⟨by omega, HN2.out.1⟩), Lib.hid (by rw [HBb.out, HAa.out]; exact HOu.out.set HO.out HPs.out.lo HLt.out HN2.out.2), Lib.hid (HD.out.setO b (a : Int) rfl)⟩
                              case measure => simp [intOf]; omega
                            · have d6 : ((a : Int) != fo' b) = true := bne_iff_ne.2 hch
                              have HN2 := Lib.hid (HPs.out.next HO.out HZ.out HLt.out HZz.out true ⟨fun _ h => hch (HCh.out.2 h).symm, fun _ => rfl⟩)
                              clear hch
                              go_wp2
                              go_roundw
                              case rel => exact ⟨c + 1, true, _, upd o' c z, put fo' b (a : Int), rfl, by go_num, by omega, Lib.hid (.inr ⟨by omega, HN2.out.1⟩), Lib.hid (by rw [HBb.out, HAa.out]; exact HOu.out.set HO.out HPs.out.lo HLt.out HN2.out.2), Lib.hid (HD.out.setO b (a : Int) rfl)⟩
                              case measure => simp [intOf]; omega
                          · have HN2 := Lib.hid (HPs.out.next HO.out HZ.out HLt.out HZz.out (decide (¬ (c < P' ∧ z = o' c))) decide_eq_true_iff)
                            go_wp2
                            go_roundw
                            case rel => exact ⟨c + 1, true, _, upd o' c z, put fo' b (a : Int), rfl, by go_num, by omega, Lib.hid (.inr ⟨by omega, HN2.out.1⟩), Lib.hid (by rw [HBb.out, HAa.out]; exact HOu.out.set HO.out HPs.out.lo HLt.out HN2.out.2), Lib.hid (HD.out.setO b (a : Int) rfl)⟩
                            case measure => simp [intOf]; omega
                  · have HE2 : Hid (Begin (E B) L P' o' ∧ (ag = false → L.length = 0 ∨ ∃ W0, P' = L.length ∧ Pass (E B) L L.length false L.length o' W0) ∧ (if ag = true then wt L.length P' o' L.length + 1 else 0) < gk) := Lib.hid (pass_end HPa.out HBe.out (by omega) HK2.out)
                    go_wp2
                    go_roundg (if ag = true then wt L.length P' o' L.length + 1 else 0)
                    case measure => exact HE2.out.2.2
                    case rel => exact ⟨ag, P', o', fo', rfl, Lib.hid rfl, Lib.hid HE2.out.1, HOu, Lib.hid HE2.out.2.1, HD⟩
