/- Proves ClassTells: for any class and any number of frames, what the class tells is the document's. No condition. -/
import Derived.Test.YtlfgliohaidgdaaPClassTellsx2
namespace Go.Proofs.Ytlfgliohaidgdaa.Pure
open Go.RowKit Go.Proofs.Ytlfgliohaidgdaa.PClassTells Go.Proofs.YtlfgliohaidgdaaW.PrintWords Go.Proofs.YtlfgliohaidgdaaW.PrintLast

theorem ct_all : ∀ c : Fin 64, ∀ f : Fin 5, gunnylaw15_ClassTells.f 300 (c.val : Int) (f.val : Int) = some true := by decide +kernel

theorem ct_lives : gunnylaw15_lives.f 299 = some true := by decide +kernel

theorem ct_may (c : Int) (h : c < 0 ∨ 63 < c) : class_may.f c = some false := by
  unfold class_may.f
  by_cases h0 : c ≥ 0
  · rw [if_pos h0, decide_eq_false (by omega)]
  · rw [if_neg h0]

theorem ct_left (c f : Int) (hf : f < 1 ∨ 4 < f) : class_Left.f c f = some 0 := by
  unfold class_Left.f
  have : ∃ b, class_may.f c = some b := by unfold class_may.f; split <;> exact ⟨_, rfl⟩
  obtain ⟨b, hb⟩ := this
  rw [hb]; simp only [Option.bind_some]
  cases b with
  | false => rfl
  | true =>
    rw [if_pos rfl]
    by_cases h : f < 1
    · rw [if_pos h]
    · rw [if_neg h, if_pos (by omega)]

theorem ct_outj2 (k : Nat) (c f x : Int) (hf : f < 1 ∨ 4 < f) : gunnylaw15_ClassTells.j2 k c f x = gunnylaw15_ClassTells.j2 k c 0 x := by
  cases k with
  | zero => rfl
  | succ k => simp only [gunnylaw15_ClassTells.j2, ct_left c f hf, ct_left c 0 (by omega)]

theorem ct_out (k : Nat) (c f : Int) (hf : f < 1 ∨ 4 < f) : gunnylaw15_ClassTells.f (k + 3) c f = gunnylaw15_ClassTells.f (k + 3) c 0 := by
  have e1 : ∀ g : Int, g < 1 ∨ 4 < g → ∀ b, gunnylaw15_ClassTells.j0 (k + 3) c g b = if b = true then ((class_Size.f c).bind fun t116 => (if t116 = 0 then ((class_Frames.f (k+2) c).bind fun t117 => (if t117 = 0 then ((class_Objects.f (k+2) c).bind fun t118 => (if t118 = 0 then ((gunnylaw15_lives.f (k+2)).bind fun t120 => (some t120)) else (some false))) else (some false))) else (some false))) else gunnylaw15_ClassTells.j2 (k + 1) c 0 0 := by
    intro g hg b
    simp only [gunnylaw15_ClassTells.j0, ct_left c g hg]
    by_cases h1 : g ≥ 1
    · rw [if_pos h1, decide_eq_false (by omega)]
      simp only [gunnylaw15_ClassTells.j1, Option.bind_some, ct_outj2 _ c g _ hg]
      simp
    · rw [if_neg h1]
      simp only [gunnylaw15_ClassTells.j1, Option.bind_some, ct_outj2 _ c g _ hg]
      simp
  unfold gunnylaw15_ClassTells.f
  rw [e1 f hf, e1 0 (by omega), e1 f hf, e1 0 (by omega)]

theorem ClassTells : gunnylaw15_ClassTells.Pure := by
  intro c f _ _
  refine ⟨300, ?_⟩
  by_cases hc : c < 0 ∨ 63 < c
  · have hm := ct_may c hc
    have : gunnylaw15_ClassTells.f 300 c f = gunnylaw15_ClassTells.j0 300 c f true := by
      unfold gunnylaw15_ClassTells.f
      by_cases h : c < 0
      · rw [if_pos h]
      · rw [if_neg h, decide_eq_true (by omega)]
    rw [this]
    simp only [gunnylaw15_ClassTells.j0, class_Size.f, class_Frames.f, class_Objects.f, class_Left.f, hm, Option.bind_some, ct_lives]
    simp
  · obtain ⟨n, rfl⟩ : ∃ n : Nat, c = n := ⟨c.toNat, by omega⟩
    by_cases hf : f < 1 ∨ 4 < f
    · rw [ct_out 297 _ f hf]; exact ct_all ⟨n, by omega⟩ ⟨0, by omega⟩
    · obtain ⟨m, rfl⟩ : ∃ m : Nat, f = m := ⟨f.toNat, by omega⟩
      exact ct_all ⟨n, by omega⟩ ⟨m, by omega⟩

end Go.Proofs.Ytlfgliohaidgdaa.Pure
