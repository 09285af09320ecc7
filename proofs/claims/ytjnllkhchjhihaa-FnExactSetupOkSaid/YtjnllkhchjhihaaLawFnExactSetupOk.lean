/- SetupOk of the program answers as the reference's, for every setup; no condition. -/
import Derived.Test.YtjnllkhchjhihaaRows
import Derived.Test.YtjnllkhchjhihaaPureFnExactSetupOk
import Derived.Test.YtjnllkhchjhihaaOpen
import Derived.WalkKit
import Derived.ProofKit
import Derived.OpenShut
import Derived.ShutString
import Derived.ChangeOld
import Derived.Below
import Derived.SizedLaws
namespace Go.Proofs.Ytjnllkhchjhihaa.fnExactSetupOk
open Go.ChangeShapes Go.WideShapes Go.ChangeAt Go.RowKit Go.Proofs.Ytjnllkhchjhihaa.Open Go.Proofs.YtjnllkhchjhihaaW.PrintWords
set_option linter.unusedVariables false
theorem own : ownKnob Try.prog.godebug = none := by kernel_rfl
theorem laidOut : laidOutB Try.prog = true := by kernel_rfl
theorem opens0 : Opens Try.prog 37 (Kd.pair (Kd.int .i64) (Kd.pair (Kd.int .i64) (Kd.pair (Kd.slice 3 (Kd.int .i64)) (Kd.pair (Kd.int .i64) (Kd.slice 3 (Kd.int .i64)))))) (fun x => (Lit.int .i64 x.1).wf = true ∧ ((Lit.int .i64 x.2.1).wf = true ∧ ((x.2.2.1.length ≤ maxLen ∧ ∀ n ∈ x.2.2.1, (Lit.int .i64 n).wf = true) ∧ ((Lit.int .i64 x.2.2.2.1).wf = true ∧ (x.2.2.2.2.length ≤ maxLen ∧ ∀ n ∈ x.2.2.2.2, (Lit.int .i64 n).wf = true))))) := Opens.struct Try.underlying37 (by kernel_rfl) (OpensF.cons rfl (by kernel_rfl) (Opens.int Try.underlying3) (OpensF.cons rfl (by kernel_rfl) (Opens.int Try.underlying3) (OpensF.cons rfl (by kernel_rfl) (Opens.slice 3 Try.underlying22 (by kernel_rfl) (Opens.int Try.underlying3)) (OpensF.cons rfl (by kernel_rfl) (Opens.int Try.underlying3) (OpensF.one rfl (by kernel_rfl) (Opens.slice 3 Try.underlying22 (by kernel_rfl) (Opens.int Try.underlying3)))))))
set_option maxRecDepth 100000 in
theorem lifted (os : Os) (started : os.Started) (H : Type) (enc : TypeId × Value → H) :
    ReturnsInHanded {} Try.checked os 5 .any (Rows.fnExactSetupOkSpec.pre6 enc Try.prog Try.f5 Rows.fnExactSetupOkRow.domain false) (Rows.fnExactSetupOkSpec.post enc Try.prog Try.f5 false true false false) := by
  refine returnsInHanded_of_change_sized (C := Try.checked) own started (by kernel_rfl) Try.func5
    (ChangeSpec.witness6 (enc := enc) (C := Try.checked) false ⟨#[], #[.agg #[.int .i64 0, .int .i64 0, .slice none 0 0, .int .i64 0, .slice none 0 0]], []⟩ 8 (by kernel_rfl) (by kernel_rfl) (by kernel_rfl) (by kernel_rfl)) ?_
  intro W base args ds gs before hval0 hW hcnd hsz0 _
  have hval : ∀ (j : Nat) t v, Try.f5.params[j]? = some t → args[j]? = some v → Value.okWide Try.prog W .any base t v := hval0
  have hW' := hW
  obtain ⟨p, q, hA0, hV, rfl, hfz, hnd⟩ := hW
  have hA : DataW.TrodAll enc Try.prog W 0 (fun _ => true) true Try.f5.params.toList args.toList ds p := hA0
  rw [Try.params5] at hA hval
  obtain ⟨v0, vs0, d0, ds0, p0, q0, hargs, rfl, rfl, h0, r0⟩ := trodAll_cons hA
  obtain ⟨rfl, rfl, rfl⟩ := trodAll_nil r0
  obtain rfl : args = #[v0] := by cases args; simp_all
  obtain ⟨rfl, rfl⟩ := trodVars_none hV
  obtain ⟨cs0, rfl, _⟩ := okWide_struct Try.underlying37 (hval 0 37 v0 rfl rfl)
  have k0 := h0
  have lt0 : ∀ x ∈ p0, x.block < W.heap.size := by obtain ⟨m, hm⟩ := k0; exact DataW.trod_lt m _ _ _ hm
  obtain ⟨fuel0, hf0⟩ := h0
  obtain ⟨x0, hK0, hF0⟩ := opens0 H enc W fuel0 _ _ hf0
  obtain ⟨s0, s1, hcs0, e0, ⟨s2, s3, e1, e2, ⟨s4, s5, e3, ⟨A2, c2, e4, hlc2, hC2⟩, ⟨s6, s7, e5, e6, ⟨A4, c4, e7, hlc4, hC4⟩⟩⟩⟩⟩ := hK0
  obtain ⟨a00, a01, a02, a03, a04⟩ := x0
  cases e0; cases e2; cases e6; subst e1 e3 e4 e5 e7
  obtain rfl : cs0 = #[.int .i64 a00, .int .i64 a01, .slice A2 a02.length c2, .int .i64 a03, .slice A4 a04.length c4] := by cases cs0; simp_all [Value.cells]
  clear hA0 hval0 hsz0
  obtain ⟨rounds, hr⟩ := Pure.FnExactSetupOk a00 a01 a02 a03 a04 hF0.2.2.1.1 hF0.2.2.2.2.1
  refine (QFnExactSetupOk.laws_FnExactSetupOk.calls rounds a00 a01 A2 c2 a02 a03 A4 c4 a04 true W hC2 hlc2 hC4 hlc4 hr).mono fun e W' ⟨he, bel⟩ => ?_
  subst he
  exact ⟨_, rfl, _, _, _, [], _, [], hW', trodAll_mk1 (shut_bool Try.underlying4 _), (trodAll_cons_mk (Below.trod laidOut (by kernel_rfl) (of_decide_eq_true (by kernel_rfl)) k0 bel lt0) trodAll_mk0), rfl, bel.frame _, fun h => by cases h⟩
theorem over : Rows.fnExactSetupOkRow.holds Try.pinned (OpenSpec.ofChange Rows.fnExactSetupOkSpec) :=
  OpenClaim.holds_of_wide 5 Try.f5 rfl rfl rfl rfl rfl rfl rfl ⟨rfl, rfl, rfl, rfl, rfl⟩ rfl rfl rfl rfl rfl (by kernel_rfl) Try.func5 (by kernel_rfl)
    (of_decide_eq_true (by kernel_rfl)) (by unfold Func.isWrapper; first | (rw [if_pos (by decide +kernel)]; kernel_rfl) | (rw [if_neg (by decide +kernel)]; exact ⟨rfl, rfl⟩))
    (fun os started H enc _ => lifted os started H enc)
theorem proved : Rows.FnExactSetupOkSaid := over
#print axioms proved
end Go.Proofs.Ytjnllkhchjhihaa.fnExactSetupOk
namespace Go.Proofs.Ytjnllkhchjhihaa
/-- The row, under a short name, for the claim. -/
theorem fnExactSetupOk_holds : Rows.FnExactSetupOkSaid := fnExactSetupOk.proved
end Go.Proofs.Ytjnllkhchjhihaa
