/- What can be read as data of a function's Go type is of the kind that the printed contracts speak of, and no list in it is too long. -/
import Derived.Test.YtlamooicofkjlaaFnEFnExactDoms
import Derived.Test.YtlamooicofkjlaaOpen
namespace Go.Proofs.Ytlamooicofkjlaa.OpenFnFnExactDoms
open Go.RowKit Go.Proofs.Ytlamooicofkjlaa.QFnExactDoms Go.Proofs.YtlamooicofkjlaaW.PrintWords Go.Proofs.YtlamooicofkjlaaW.PrintLast Go.Proofs.Ytlamooicofkjlaa.Open Go.Proofs.Ytlamooicofkjlaa.FnEFnExactDoms

theorem opens_mono {α : Type} {P : Program} {t : TypeId} {d : Kd α} {F G : α → Prop} (h : Opens P t d F) (hg : ∀ x, F x → G x) : Opens P t d G := by
  intro H enc w fuel cs x hx
  obtain ⟨y, hy, hF⟩ := h H enc w fuel cs x hx
  exact ⟨y, hy, hg y hF⟩
theorem opensI : Opens Try.prog 30 (Kd.slice 3 (Kd.int .i64)) (fun l => l.length ≤ maxLen) :=
  opens_mono (Opens.slice 3 Try.underlying30 (by kernel_rfl) (Opens.int Try.underlying3)) (fun _ h => h.1)
theorem opens24 : Opens Try.prog 24 k24 (fun _ => True) :=
  opens_mono (Opens.iso (fun y => (⟨y.1, y.2⟩ : S24)) (fun _ => rfl)
    (Opens.struct Try.underlying24 (by kernel_rfl) (OpensF.cons rfl (by kernel_rfl) (Opens.int Try.underlying3) (OpensF.one rfl (by kernel_rfl) (Opens.int Try.underlying3))))) (fun _ _ => trivial)
theorem opens63 : Opens Try.prog 63 k63 (fun v => v.f3.length ≤ maxLen) :=
  opens_mono (Opens.iso (fun y => (⟨y.1, y.2.1, y.2.2.1, y.2.2.2⟩ : S63)) (fun _ => rfl)
    (Opens.struct Try.underlying63 (by kernel_rfl) (OpensF.cons rfl (by kernel_rfl) (Opens.int Try.underlying3) (OpensF.cons rfl (by kernel_rfl) (Opens.int Try.underlying3) (OpensF.cons rfl (by kernel_rfl) opens24 (OpensF.one rfl (by kernel_rfl) opensI)))))) (fun _ h => h.2.2.2)
theorem opens101 : Opens Try.prog 101 k101 (fun v => v.f1.length ≤ maxLen) :=
  opens_mono (Opens.iso (fun y => (⟨y.1, y.2⟩ : S101)) (fun _ => rfl)
    (Opens.struct Try.underlying101 (by kernel_rfl) (OpensF.cons rfl (by kernel_rfl) (Opens.int Try.underlying3) (OpensF.one rfl (by kernel_rfl) opensI)))) (fun _ h => h.2)
theorem opens67 : Opens Try.prog 67 k67 (fun b => b.f0.length ≤ maxLen ∧ b.f1.length ≤ maxLen ∧ b.f3.length ≤ maxLen ∧ b.f4.length ≤ maxLen ∧ ∀ g ∈ b.f4, g.f1.length ≤ maxLen) :=
  opens_mono (Opens.iso (fun y => (⟨y.1, y.2.1, y.2.2.1, y.2.2.2.1, y.2.2.2.2⟩ : S67)) (fun _ => rfl)
    (Opens.struct Try.underlying67 (by kernel_rfl) (OpensF.cons rfl (by kernel_rfl) opensI (OpensF.cons rfl (by kernel_rfl) opensI (OpensF.cons rfl (by kernel_rfl) (Opens.int Try.underlying3) (OpensF.cons rfl (by kernel_rfl) opensI (OpensF.one rfl (by kernel_rfl) (Opens.slice 101 Try.underlying65 (by kernel_rfl) opens101)))))))) (fun _ h => ⟨h.1, h.2.1, h.2.2.2.1, h.2.2.2.2.1, h.2.2.2.2.2⟩)
theorem opens28 : Opens Try.prog 28 (Kd.pair (Kd.slice 24 k24) (Kd.pair k24 (Kd.pair (Kd.slice 63 k63) (Kd.slice 67 k67)))) (fun x => Fits x.1 x.2.2.1 x.2.2.2) :=
  opens_mono (Opens.struct Try.underlying28 (by kernel_rfl) (OpensF.cons rfl (by kernel_rfl) (Opens.slice 24 Try.underlying22 (by kernel_rfl) opens24)
    (OpensF.cons rfl (by kernel_rfl) opens24 (OpensF.cons rfl (by kernel_rfl) (Opens.slice 63 Try.underlying25 (by kernel_rfl) opens63) (OpensF.one rfl (by kernel_rfl) (Opens.slice 67 Try.underlying26 (by kernel_rfl) opens67)))))) (fun _ h => ⟨h.1.1, h.2.2.1, h.2.2.2.1, h.2.2.2.2⟩)

end Go.Proofs.Ytlamooicofkjlaa.OpenFnFnExactDoms
