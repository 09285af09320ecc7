/- What can be read as data of an image's Go type is of the kind that the printed contracts speak of, and no list in it is too long. -/
import Derived.Test.YtkfeoilnhpfknaaImgEFnExactImageBytes
import Derived.Test.YtkfeoilnhpfknaaOpen
namespace Go.Proofs.Ytkfeoilnhpfknaa.OpenImgFnExactImageBytes
open Go.RowKit Go.Proofs.Ytkfeoilnhpfknaa.QFnExactImageBytes Go.Proofs.YtkfeoilnhpfknaaW.PrintWords Go.Proofs.YtkfeoilnhpfknaaW.PrintLast Go.Proofs.Ytkfeoilnhpfknaa.Open Go.Proofs.Ytkfeoilnhpfknaa.ImgEFnExactImageBytes

theorem opens_mono {α : Type} {P : Program} {t : TypeId} {d : Kd α} {F G : α → Prop} (h : Opens P t d F) (hg : ∀ x, F x → G x) : Opens P t d G := by
  intro H enc w fuel cs x hx
  obtain ⟨y, hy, hF⟩ := h H enc w fuel cs x hx
  exact ⟨y, hy, hg y hF⟩
theorem opens117 : Opens Try.prog 117 k117 (fun _ => True) :=
  opens_mono (Opens.iso (fun y => (⟨y.1, y.2.1, y.2.2.1, y.2.2.2.1, y.2.2.2.2⟩ : S117)) (fun _ => rfl)
    (Opens.struct Try.underlying117 (by kernel_rfl) (OpensF.cons rfl (by kernel_rfl) (Opens.int Try.underlying3) (OpensF.cons rfl (by kernel_rfl) (Opens.int Try.underlying3) (OpensF.cons rfl (by kernel_rfl) (Opens.int Try.underlying3) (OpensF.cons rfl (by kernel_rfl) (Opens.int Try.underlying3) (OpensF.one rfl (by kernel_rfl) (Opens.int Try.underlying3)))))))) (fun _ _ => trivial)
theorem opens115 : Opens Try.prog 115 k115 (fun m => m.f1.length ≤ maxLen) :=
  opens_mono (Opens.iso (fun y => (⟨y.1, y.2⟩ : S115)) (fun _ => rfl)
    (Opens.struct Try.underlying115 (by kernel_rfl) (OpensF.cons rfl (by kernel_rfl) (Opens.int Try.underlying3) (OpensF.one rfl (by kernel_rfl) (Opens.slice 3 Try.underlying70 (by kernel_rfl) (Opens.int Try.underlying3)))))) (fun _ h => h.2.1)
theorem opens83 : Opens Try.prog 83 k83 (fun c => c.f2.length ≤ maxLen ∧ c.f3.length ≤ maxLen ∧ ∀ m ∈ c.f3, m.f1.length ≤ maxLen) :=
  opens_mono (Opens.iso (fun y => (⟨y.1, y.2.1, y.2.2.1, y.2.2.2⟩ : S83)) (fun _ => rfl)
    (Opens.struct Try.underlying83 (by kernel_rfl) (OpensF.cons rfl (by kernel_rfl) (Opens.int Try.underlying3) (OpensF.cons rfl (by kernel_rfl) (Opens.int Try.underlying3) (OpensF.cons rfl (by kernel_rfl) (Opens.slice 117 Try.underlying80 (by kernel_rfl) opens117) (OpensF.one rfl (by kernel_rfl) (Opens.slice 115 Try.underlying81 (by kernel_rfl) opens115))))))) (fun _ h => ⟨h.2.2.1.1, h.2.2.2.1, h.2.2.2.2⟩)
theorem opens25 : Opens Try.prog 25 (Kd.pair (Kd.slice 55 (Kd.slice 4 Kd.bool)) (Kd.pair (Kd.slice 83 k83) (Kd.int .i64))) (fun x => Fits x.1 x.2.1) :=
  opens_mono (Opens.struct Try.underlying25 (by kernel_rfl) (OpensF.cons rfl (by kernel_rfl) (Opens.slice 55 Try.underlying22 (by kernel_rfl) (Opens.slice 4 Try.underlying55 (by kernel_rfl) (Opens.bool Try.underlying4)))
    (OpensF.cons rfl (by kernel_rfl) (Opens.slice 83 Try.underlying23 (by kernel_rfl) opens83) (OpensF.one rfl (by kernel_rfl) (Opens.int Try.underlying3))))) (fun _ h => ⟨h.1.1, fun s hs => (h.1.2 s hs).1, h.2.1.1, fun c hc => h.2.1.2 c hc⟩)

end Go.Proofs.Ytkfeoilnhpfknaa.OpenImgFnExactImageBytes
