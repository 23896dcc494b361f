/- How ops, answers and pages that came in are read. -/
import Derived.Test.YtgcgnpinhlmmjaaRx0
import Derived.Test.YtgcgnpinhlmmjaaOpens
import Derived.Test.YtgcgnpinhlmmjaaA8
namespace Go.Proofs.Ytgcgnpinhlmmjaa.Hand
set_option linter.unusedVariables false
set_option linter.unusedSimpArgs false
open Go.RowKit Go.Proofs.Ytgcgnpinhlmmjaa.R Go.Proofs.YtgcgnpinhlmmjaaW.PrintWords
/-- An array of two. -/
theorem opens_arr2 {α : Type} {P : Program} {d : Kd α} {t e : TypeId} {R : α → Prop} (ht : P.underlying t = some (.array 2 e)) (hc : P.cellsOf t = 2 * d.sz) (h : Opens.Opens P d e R) : Opens.Opens P (Kd.pair d d) t (fun x => R x.1 ∧ R x.2) := by
  refine ⟨by rw [hc]; show _ = d.sz + d.sz; omega, fun enc w base spare held fuel cs x hx => ?_⟩
  obtain ⟨xs, m, _, _, hl, hxl, hget⟩ := DataW.trod_array ht hx
  rw [hc] at hl
  have g : ∀ i, i < 2 → ∃ y, d.K w y ((cs.drop (i * d.sz)).take d.sz) ∧ R y := fun i hi => by
    have h1 := hget i hi
    rw [List.getElem?_eq_getElem (by omega), h.1] at h1
    exact h.2 enc w base spare held m _ _ h1
  obtain ⟨y0, k0, r0⟩ := g 0 (by omega)
  obtain ⟨y1, k1, r1⟩ := g 1 (by omega)
  rw [Nat.zero_mul, List.drop_zero] at k0
  rw [Nat.one_mul] at k1
  refine ⟨(y0, y1), ⟨cs.take d.sz, cs.drop d.sz, (List.take_append_drop _ _).symm, k0, ?_⟩, r0, r1⟩
  rwa [List.take_of_length_le (by rw [List.length_drop]; omega)] at k1
def OpWf (x : S25) : Prop := (Lit.int .i64 x.f0).wf = true ∧ (Lit.int .i64 x.f1).wf = true ∧ (Lit.int .i64 x.f2).wf = true ∧ (Lit.int .u64 x.f3).wf = true ∧ x.f4.length ≤ maxLen ∧ ∀ b ∈ x.f4, (Lit.int .u8 b).wf = true
set_option maxRecDepth 100000 in
theorem opens_op : Opens.Opens Try.prog k25 25 OpWf := by
  have h := Opens.opens_iso (f := fun x : S25 => (x.f0, x.f1, x.f2, x.f3, x.f4)) (fun a => (⟨a.1, a.2.1, a.2.2.1, a.2.2.2.1, a.2.2.2.2⟩ : S25)) (fun a => rfl)
    (Opens.opens_struct Try.underlying25 (by kernel_rfl) (Opens.opensF_cons rfl (Opens.opens_int Try.underlying3 (by kernel_rfl)) (Opens.opensF_cons rfl (Opens.opens_int Try.underlying3 (by kernel_rfl)) (Opens.opensF_cons rfl (Opens.opens_int Try.underlying3 (by kernel_rfl)) (Opens.opensF_cons rfl (Opens.opens_int Try.underlying22 (by kernel_rfl)) (Opens.opensF_one rfl (Opens.opens_slice Try.underlying23 (by kernel_rfl) (Opens.opens_int Try.underlying5 (by kernel_rfl)))))))))
  exact h
def AnsWf (x : S28) : Prop := (Lit.int .i64 x.f0).wf = true ∧ (Lit.int .i64 x.f1).wf = true ∧ x.f2.length ≤ maxLen ∧ ∀ b ∈ x.f2, (Lit.int .u8 b).wf = true
set_option maxRecDepth 100000 in
theorem opens_ans : Opens.Opens Try.prog k28 28 AnsWf := by
  have h := Opens.opens_iso (f := fun x : S28 => (x.f0, x.f1, x.f2)) (fun a => (⟨a.1, a.2.1, a.2.2⟩ : S28)) (fun a => rfl)
    (Opens.opens_struct Try.underlying28 (by kernel_rfl) (Opens.opensF_cons rfl (Opens.opens_int Try.underlying26 (by kernel_rfl)) (Opens.opensF_cons rfl (Opens.opens_int Try.underlying3 (by kernel_rfl)) (Opens.opensF_one rfl (Opens.opens_slice Try.underlying23 (by kernel_rfl) (Opens.opens_int Try.underlying5 (by kernel_rfl)))))))
  exact h
set_option maxRecDepth 100000 in
theorem opens_two : Opens.Opens Try.prog (Kd.pair k28 k28) 30 (fun x => AnsWf x.1 ∧ AnsWf x.2) :=
  Opens.opens_struct Try.underlying30 (by kernel_rfl) (Opens.opensF_cons rfl opens_ans (Opens.opensF_one rfl opens_ans))
def PgWf (x : S35) : Prop := (Lit.int .u64 x.f0).wf = true ∧ (Lit.int .i64 x.f1).wf = true ∧ x.f2.length ≤ maxLen ∧ ∀ b ∈ x.f2, (Lit.int .u8 b).wf = true
set_option maxRecDepth 100000 in
theorem opens_page : Opens.Opens Try.prog k35 35 PgWf := by
  have h := Opens.opens_iso (f := fun x : S35 => (x.f0, x.f1, x.f2)) (fun a => (⟨a.1, a.2.1, a.2.2⟩ : S35)) (fun a => rfl)
    (Opens.opens_struct Try.underlying35 (by kernel_rfl) (Opens.opensF_cons rfl (Opens.opens_int Try.underlying22 (by kernel_rfl)) (Opens.opensF_cons rfl (Opens.opens_int Try.underlying3 (by kernel_rfl)) (Opens.opensF_one rfl (Opens.opens_slice Try.underlying23 (by kernel_rfl) (Opens.opens_int Try.underlying5 (by kernel_rfl)))))))
  exact h
set_option maxRecDepth 100000 in
theorem opens_pages : Opens.Opens Try.prog (Kd.pair (Kd.slice 35 k35) (Kd.slice 35 k35)) 32 (fun x => (x.1.length ≤ maxLen ∧ ∀ p ∈ x.1, PgWf p) ∧ (x.2.length ≤ maxLen ∧ ∀ p ∈ x.2, PgWf p)) :=
  opens_arr2 Try.underlying32 (by kernel_rfl) (Opens.opens_slice Try.underlying31 (by kernel_rfl) opens_page)
end Go.Proofs.Ytgcgnpinhlmmjaa.Hand
