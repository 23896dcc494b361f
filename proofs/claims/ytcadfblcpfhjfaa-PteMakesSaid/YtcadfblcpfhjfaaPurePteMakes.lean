/- PteMakes, pure: by cases of the number and the perm, both sides are made of the same parts. -/
import Derived.Test.YtcadfblcpfhjfaaPteRef
import Derived.Test.YtcadfblcpfhjfaaRx4
namespace Go.Proofs.Ytcadfblcpfhjfaa.Pure
open Go.RowKit Go.Proofs.Ytcadfblcpfhjfaa.R Go.Proofs.Ytcadfblcpfhjfaa.Bits Go.Proofs.Ytcadfblcpfhjfaa.Pte Go.Proofs.YtcadfblcpfhjfaaW.PrintWords Go.Proofs.YtcadfblcpfhjfaaW.PrintLast

theorem put0 (n : Nat) (h : n < 96) : gunnyref31_Put.f true false false false 0 (n : Int) false = some ((1024 * n + 1 : Nat) : Int) := by
  have := rput true false false false false 0 n (by omega) (by omega)
  rw [show bw true 1 + 2 * 0 + bw false 16 + bw false 64 + bw false 128 + 1024 * n = 1024 * n + 1 by show 1 + 2 * 0 + 0 + 0 + 0 + 1024 * n = _; omega] at this
  exact this
theorem put1 (n p : Nat) (h : n < 96) (hp : p < 8) : gunnyref31_Put.f true true false false (p : Int) (n : Int) false = some ((1024 * n + 2 * p + 17 : Nat) : Int) := by
  have := rput true true false false false p n (by omega) (by omega)
  rw [show bw true 1 + 2 * p + bw true 16 + bw false 64 + bw false 128 + 1024 * n = 1024 * n + 2 * p + 17 by show 1 + 2 * p + 16 + 0 + 0 + 1024 * n = _; omega] at this
  exact this
theorem put2 (n p : Nat) (h : n ≤ 512) (hp : p < 8) : gunnyref31_Put.f false true false false (p : Int) (n : Int) false = some ((1024 * n + 2 * p + 16 : Nat) : Int) := by
  have := rput false true false false false p n (by omega) (by omega)
  rw [show bw false 1 + 2 * p + bw true 16 + bw false 64 + bw false 128 + 1024 * n = 1024 * n + 2 * p + 16 by show 0 + 2 * p + 16 + 0 + 0 + 1024 * n = _; omega] at this
  exact this

theorem PteMakes : gunnylaw31_PteMakes.Pure := by
  intro a0 a1 _ _
  refine ⟨100, ?_⟩
  have lv : ∀ m, gunnylaw31_lives.f (m + 40) = some true := fun m => lives_some _ (by omega)
  have hR := rmay a1
  have hM := may_some a1
  unfold gunnylaw31_PteMakes.f
  by_cases h0 : a0 < 0
  · have d := down_no 100 a0 (by omega)
    have p := page_no 100 a0 a1 (.inl (by omega))
    have w := away_no 100 a0 a1 (.inl h0)
    rw [bs d, bs p, bs w, bs hR, if_neg (by omega)]
    simp only [gunnylaw31_PteMakes.j0, gunnylaw31_PteMakes.j1, gunnylaw31_PteMakes.j2, gunnylaw31_PteMakes.j3, hM, Option.bind_some, bne_self_eq_false, Bool.false_eq_true, if_false, if_true, if_neg (show ¬ a0 ≥ 0 by omega), lv 56]
  · obtain ⟨n, rfl⟩ : ∃ n : Nat, a0 = (n : Int) := ⟨a0.toNat, by omega⟩
    have i0 : (n : Int) ≥ 0 := by omega
    cases hm : may a1 with
    | false =>
      have p := page_no 100 (n : Int) a1 (.inr hm)
      have w := away_no 100 (n : Int) a1 (.inr (.inr hm))
      rw [hm] at hR hM
      by_cases h1 : n < 96
      · have d : pte_Down.f 100 (n : Int) = _ := down_yes 96 n h1
        rw [bs d, bs p, bs w, bs hR, if_pos i0, decide_eq_true (by omega)]
        simp only [gunnylaw31_PteMakes.j0, gunnylaw31_PteMakes.j1, gunnylaw31_PteMakes.j2, gunnylaw31_PteMakes.j3, hM, Option.bind_some, bne_self_eq_false, Bool.false_eq_true, if_false, if_true, if_pos i0, put0 n h1, lv 56]
        split <;> rfl
      · have d := down_no 100 (n : Int) (by omega)
        rw [bs d, bs p, bs w, bs hR, if_pos i0, decide_eq_false (by omega)]
        simp only [gunnylaw31_PteMakes.j0, gunnylaw31_PteMakes.j1, gunnylaw31_PteMakes.j2, gunnylaw31_PteMakes.j3, hM, Option.bind_some, bne_self_eq_false, Bool.false_eq_true, if_false, if_true, if_pos i0, lv 56]
        split <;> rfl
    | true =>
      have hr := may_range a1 hm
      obtain ⟨q, rfl⟩ : ∃ q : Nat, a1 = (q : Int) := ⟨a1.toNat, by omega⟩
      have hq : mayN q = true := by rw [← may_nat]; exact hm
      rw [hm] at hR hM
      by_cases h1 : n < 96
      · have d : pte_Down.f 100 (n : Int) = _ := down_yes 96 n h1
        have p : pte_Page.f 100 (n : Int) (q : Int) = _ := page_yes 95 n q h1 hq
        have w : pte_Away.f 100 (n : Int) (q : Int) = _ := away_yes 95 n q (by omega) hq
        rw [bs d, bs p, bs w, bs hR, if_pos i0, decide_eq_true (by omega)]
        simp only [gunnylaw31_PteMakes.j0, gunnylaw31_PteMakes.j1, gunnylaw31_PteMakes.j2, gunnylaw31_PteMakes.j3, hM, Option.bind_some, bne_self_eq_false, Bool.false_eq_true, if_false, if_true, if_pos i0, if_pos (show (n : Int) ≤ 512 by omega), put0 n h1, put1 n q h1 (by omega), put2 n q (by omega) (by omega), lv 56]
      · have d := down_no 100 (n : Int) (by omega)
        have p := page_no 100 (n : Int) (q : Int) (.inl (by omega))
        by_cases h2 : n ≤ 512
        · have w : pte_Away.f 100 (n : Int) (q : Int) = _ := away_yes 95 n q h2 hq
          rw [bs d, bs p, bs w, bs hR, if_pos i0, decide_eq_false (by omega)]
          simp only [gunnylaw31_PteMakes.j0, gunnylaw31_PteMakes.j1, gunnylaw31_PteMakes.j2, gunnylaw31_PteMakes.j3, hM, Option.bind_some, bne_self_eq_false, Bool.false_eq_true, if_false, if_true, if_pos i0, if_pos (show (n : Int) ≤ 512 by omega), put2 n q h2 (by omega), lv 56]
        · have w := away_no 100 (n : Int) (q : Int) (.inr (.inl (by omega)))
          rw [bs d, bs p, bs w, bs hR, if_pos i0, decide_eq_false (by omega)]
          simp only [gunnylaw31_PteMakes.j0, gunnylaw31_PteMakes.j1, gunnylaw31_PteMakes.j2, gunnylaw31_PteMakes.j3, hM, Option.bind_some, bne_self_eq_false, Bool.false_eq_true, if_false, if_true, if_pos i0, if_neg (show ¬ (n : Int) ≤ 512 by omega), lv 56]

end Go.Proofs.Ytcadfblcpfhjfaa.Pure
