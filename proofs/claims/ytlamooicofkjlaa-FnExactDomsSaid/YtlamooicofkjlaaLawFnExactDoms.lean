/- The program's Doms returns what the reference's returns, for all arguments: for every input the law FnExactDoms returns true, and its argument reads afterwards as it read before. No condition is set ahead. -/
import Derived.Test.YtlamooicofkjlaaRows
import Derived.Test.YtlamooicofkjlaaOpen
import Derived.Test.YtlamooicofkjlaaOpenFnFnExactDoms
import Derived.Test.YtlamooicofkjlaaDmpFnExactDoms
import Derived.WalkKit
import Derived.ProofKit
import Derived.OpenShut
import Derived.ShutString
import Derived.ChangeOld
import Derived.Below
import Derived.SizedLaws
namespace Go.Proofs.Ytlamooicofkjlaa.fnExactDoms
open Go.ChangeShapes Go.WideShapes Go.ChangeAt Go.RowKit Go.Proofs.Ytlamooicofkjlaa.Open Go.Proofs.YtlamooicofkjlaaW.PrintWords
set_option linter.unusedVariables false
theorem own : ownKnob Try.prog.godebug = none := by kernel_rfl
theorem laidOut : laidOutB Try.prog = true := by kernel_rfl
theorem opens0 : Opens Try.prog 28 (Kd.pair (Kd.slice 24 QFnExactDoms.k24) (Kd.pair QFnExactDoms.k24 (Kd.pair (Kd.slice 63 QFnExactDoms.k63) (Kd.slice 67 QFnExactDoms.k67)))) (fun x => FnEFnExactDoms.Fits x.1 x.2.2.1 x.2.2.2) := OpenFnFnExactDoms.opens28
set_option maxRecDepth 100000 in
theorem lifted (os : Os) (started : os.Started) (H : Type) (enc : TypeId × Value → H) :
    ReturnsInHanded {} Try.checked os 3 .any (Rows.fnExactDomsSpec.pre6 enc Try.prog Try.f3 Rows.fnExactDomsRow.domain false) (Rows.fnExactDomsSpec.post enc Try.prog Try.f3 false true false false) := by
  refine returnsInHanded_of_change_sized (C := Try.checked) own started (by kernel_rfl) Try.func3
    (ChangeSpec.witness6 (enc := enc) (C := Try.checked) false ⟨#[], #[.agg #[.slice none 0 0, .int .i64 0, .int .i64 0, .slice none 0 0, .slice none 0 0]], []⟩ 8 (by kernel_rfl) (by kernel_rfl) (by kernel_rfl) (by kernel_rfl)) ?_
  intro W base args ds gs before hval0 hW hcnd hsz0 _
  have hval : ∀ (j : Nat) t v, Try.f3.params[j]? = some t → args[j]? = some v → Value.okWide Try.prog W .any base t v := hval0
  have hW' := hW
  obtain ⟨p, q, hA0, hV, rfl, hfz, hnd⟩ := hW
  have hA : DataW.TrodAll enc Try.prog W 0 (fun _ => true) true Try.f3.params.toList args.toList ds p := hA0
  rw [Try.params3] at hA hval
  obtain ⟨v0, vs0, d0, ds0, p0, q0, hargs, rfl, rfl, h0, r0⟩ := trodAll_cons hA
  obtain ⟨rfl, rfl, rfl⟩ := trodAll_nil r0
  obtain rfl : args = #[v0] := by cases args; simp_all
  obtain ⟨rfl, rfl⟩ := trodVars_none hV
  obtain ⟨cs0, rfl, _⟩ := okWide_struct Try.underlying28 (hval 0 28 v0 rfl rfl)
  have k0 := h0
  have lt0 : ∀ x ∈ p0, x.block < W.heap.size := by obtain ⟨m, hm⟩ := k0; exact DataW.trod_lt m _ _ _ hm
  obtain ⟨fuel0, hf0⟩ := h0
  obtain ⟨x0, hK0, hF0⟩ := opens0 H enc W fuel0 _ _ hf0
  obtain ⟨s0, s1, hcs0, ⟨A0, c0, e0, hlc0, hC0⟩, ⟨s2, s3, e1, hT, ⟨s4, s5, e5, ⟨A3, c3, e3, hlc3, hC3⟩, ⟨A4, c4, e4, hlc4, hC4⟩⟩⟩⟩ := hK0
  obtain ⟨x00, x01, x03, x04⟩ := x0
  have eT := QFnExactDoms.k24_open hT
  clear hT
  subst e4 e3 e5 eT e1 e0
  obtain rfl : cs0 = #[.slice A0 x00.length c0, .int .i64 x01.f0, .int .i64 x01.f1, .slice A3 x03.length c3, .slice A4 x04.length c4] := by cases cs0; simp_all [Value.cells]
  clear hA0 hval0 hsz0
  refine (DmFnExactDoms.law_c A0 c0 x00 x01.f0 x01.f1 A3 c3 x03 A4 c4 x04 W hC0 hlc0 hC3 hlc3 hC4 hlc4 hF0).mono fun e W' ⟨he, bel⟩ => ?_
  subst he
  exact ⟨_, rfl, _, _, _, [], _, [], hW', trodAll_mk1 (shut_bool Try.underlying4 _), (trodAll_cons_mk (Below.trod laidOut (by kernel_rfl) (of_decide_eq_true (by kernel_rfl)) k0 bel lt0) trodAll_mk0), rfl, bel.frame _, fun h => by cases h⟩
theorem over : Rows.fnExactDomsRow.holds Try.pinned (OpenSpec.ofChange Rows.fnExactDomsSpec) :=
  OpenClaim.holds_of_wide 3 Try.f3 rfl rfl rfl rfl rfl rfl rfl ⟨rfl, rfl, rfl, rfl, rfl⟩ rfl rfl rfl rfl rfl (by kernel_rfl) Try.func3 (by kernel_rfl)
    (of_decide_eq_true (by kernel_rfl)) (by unfold Func.isWrapper; first | (rw [if_pos (by decide +kernel)]; kernel_rfl) | (rw [if_neg (by decide +kernel)]; exact ⟨rfl, rfl⟩))
    (fun os started H enc _ => lifted os started H enc)
theorem proved : Rows.FnExactDomsSaid := over
#print axioms proved
end Go.Proofs.Ytlamooicofkjlaa.fnExactDoms
namespace Go.Proofs.Ytlamooicofkjlaa
/-- The row, under a short name, for the claim. -/
theorem fnExactDoms_holds : Rows.FnExactDomsSaid := fnExactDoms.proved
end Go.Proofs.Ytlamooicofkjlaa
