/- ImageBytes of the program answers as the reference's, for every image, changes nothing of it, and its answer owns its memory; no condition. -/
import Derived.Test.YtkfeoilnhpfknaaRows
import Derived.Test.YtkfeoilnhpfknaaOpen
import Derived.Test.YtkfeoilnhpfknaaOpenImgFnExactImageBytes
import Derived.Test.YtkfeoilnhpfknaaImvFnExactImageBytes
import Derived.WalkKit
import Derived.ProofKit
import Derived.OpenShut
import Derived.ShutString
import Derived.ChangeOld
import Derived.Below
import Derived.SizedLaws
namespace Go.Proofs.Ytkfeoilnhpfknaa.fnExactImageBytes
open Go.ChangeShapes Go.WideShapes Go.ChangeAt Go.RowKit Go.Proofs.Ytkfeoilnhpfknaa.Open Go.Proofs.YtkfeoilnhpfknaaW.PrintWords
set_option linter.unusedVariables false
theorem own : ownKnob Try.prog.godebug = none := by kernel_rfl
theorem laidOut : laidOutB Try.prog = true := by kernel_rfl
theorem opens0 : Opens Try.prog 25 (Kd.pair (Kd.slice 55 (Kd.slice 4 Kd.bool)) (Kd.pair (Kd.slice 83 QFnExactImageBytes.k83) (Kd.int .i64))) (fun x => ImgEFnExactImageBytes.Fits x.1 x.2.1) := OpenImgFnExactImageBytes.opens25
set_option maxRecDepth 100000 in
theorem lifted (os : Os) (started : os.Started) (H : Type) (enc : TypeId × Value → H) :
    ReturnsInHanded {} Try.checked os 4 .any (Rows.fnExactImageBytesSpec.pre6 enc Try.prog Try.f4 Rows.fnExactImageBytesRow.domain false) (Rows.fnExactImageBytesSpec.post enc Try.prog Try.f4 false true false false) := by
  refine returnsInHanded_of_change_sized (C := Try.checked) own started (by kernel_rfl) Try.func4
    (ChangeSpec.witness6 (enc := enc) (C := Try.checked) false ⟨#[], #[.agg #[.slice none 0 0, .slice none 0 0, .int .i64 0]], []⟩ 8 (by kernel_rfl) (by kernel_rfl) (by kernel_rfl) (by kernel_rfl)) ?_
  intro W base args ds gs before hval0 hW hcnd hsz0 _
  have hval : ∀ (j : Nat) t v, Try.f4.params[j]? = some t → args[j]? = some v → Value.okWide Try.prog W .any base t v := hval0
  have hW' := hW
  obtain ⟨p, q, hA0, hV, rfl, hfz, hnd⟩ := hW
  have hA : DataW.TrodAll enc Try.prog W 0 (fun _ => true) true Try.f4.params.toList args.toList ds p := hA0
  rw [Try.params4] at hA hval
  obtain ⟨v0, vs0, d0, ds0, p0, q0, hargs, rfl, rfl, h0, r0⟩ := trodAll_cons hA
  obtain ⟨rfl, rfl, rfl⟩ := trodAll_nil r0
  obtain rfl : args = #[v0] := by cases args; simp_all
  obtain ⟨rfl, rfl⟩ := trodVars_none hV
  obtain ⟨cs0, rfl, _⟩ := okWide_struct Try.underlying25 (hval 0 25 v0 rfl rfl)
  have k0 := h0
  have lt0 : ∀ x ∈ p0, x.block < W.heap.size := by obtain ⟨m, hm⟩ := k0; exact DataW.trod_lt m _ _ _ hm
  obtain ⟨fuel0, hf0⟩ := h0
  obtain ⟨x0, hK0, hF0⟩ := opens0 H enc W fuel0 _ _ hf0
  obtain ⟨s0, s1, hcs0, ⟨A0, c0, e0, hlc0, hC0⟩, ⟨s2, s3, e1, ⟨A1, c1, e2, hlc1, hC1⟩, e3⟩⟩ := hK0
  obtain ⟨x00, x01, x02⟩ := x0
  cases e3; subst e2 e1 e0
  obtain rfl : cs0 = #[.slice A0 x00.length c0, .slice A1 x01.length c1, .int .i64 x02] := by cases cs0; simp_all [Value.cells]
  clear hA0 hval0 hsz0
  refine (ImFnExactImageBytes.law_c A0 c0 x00 A1 c1 x01 x02 W hC0 hlc0 hC1 hlc1 hF0).mono fun e W' ⟨he, bel⟩ => ?_
  subst he
  exact ⟨_, rfl, _, _, _, [], _, [], hW', trodAll_mk1 (shut_bool Try.underlying4 _), (trodAll_cons_mk (Below.trod laidOut (by kernel_rfl) (of_decide_eq_true (by kernel_rfl)) k0 bel lt0) trodAll_mk0), rfl, bel.frame _, fun h => by cases h⟩
theorem over : Rows.fnExactImageBytesRow.holds Try.pinned (OpenSpec.ofChange Rows.fnExactImageBytesSpec) :=
  OpenClaim.holds_of_wide 4 Try.f4 rfl rfl rfl rfl rfl rfl rfl ⟨rfl, rfl, rfl, rfl, rfl⟩ rfl rfl rfl rfl rfl (by kernel_rfl) Try.func4 (by kernel_rfl)
    (of_decide_eq_true (by kernel_rfl)) (by unfold Func.isWrapper; first | (rw [if_pos (by decide +kernel)]; kernel_rfl) | (rw [if_neg (by decide +kernel)]; exact ⟨rfl, rfl⟩))
    (fun os started H enc _ => lifted os started H enc)
theorem proved : Rows.FnExactImageBytesSaid := over
#print axioms proved
end Go.Proofs.Ytkfeoilnhpfknaa.fnExactImageBytes
namespace Go.Proofs.Ytkfeoilnhpfknaa
/-- The row, under a short name, for the claim. -/
theorem fnExactImageBytes_holds : Rows.FnExactImageBytesSaid := fnExactImageBytes.proved
end Go.Proofs.Ytkfeoilnhpfknaa
