/- How an entry that came in is read. -/
import Derived.Test.YtoljebdicjiogaaRx0
import Derived.Test.YtoljebdicjiogaaOpens
namespace Go.Proofs.Ytoljebdicjiogaa.Hand
open Go.RowKit Go.Proofs.Ytoljebdicjiogaa.R Go.Proofs.YtoljebdicjiogaaW.PrintWords
theorem o30 : Opens.Opens Try.prog k30 30 (fun x => (Lit.int .i64 x.f0).wf = true) := by
  have h := Opens.opens_iso (f := fun x : S30 => (x.f0, x.f1, x.f2)) (fun a => (⟨a.1, a.2.1, a.2.2⟩ : S30)) (fun a => rfl)
    (Opens.opens_struct Try.underlying30 (by kernel_rfl) (Opens.opensF_cons rfl (Opens.opens_int Try.underlying3 (by kernel_rfl)) (Opens.opensF_cons rfl (Opens.opens_int Try.underlying3 (by kernel_rfl)) (Opens.opensF_one rfl (Opens.opens_int Try.underlying3 (by kernel_rfl))))))
  exact ⟨h.1, fun enc w base spare held fuel cs x hx => by
    obtain ⟨y, h1, h2⟩ := h.2 enc w base spare held fuel cs x hx
    exact ⟨y, h1, h2.1⟩⟩
end Go.Proofs.Ytoljebdicjiogaa.Hand
