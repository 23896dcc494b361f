-- written for this claim by a program (a patched print)
import Derived.Test.YtpdpkjdkafmmhaaRx0
import Derived.Test.YtpdpkjdkafmmhaaRx1
import Derived.Test.YtpdpkjdkafmmhaaRx2
namespace Go.Proofs.Ytpdpkjdkafmmhaa.R
open Go.RowKit Go.Proofs.YtpdpkjdkafmmhaaW.PrintWords Go.Proofs.YtpdpkjdkafmmhaaW.PrintLast Go.Proofs.YtpdpkjdkafmmhaaW.PrintMore
attribute [local go_sem] max2_int min2_int max_two min_two max_three min_three max_four min_four   -- for this text's walks alone
set_option linter.unusedVariables false
set_option linter.unusedSimpArgs false

/-! ### va_Cross: function 19 -/
mutual
def va_Cross.j0 : Nat → Int → Int → Bool → Option (List Int × Bool)
  | 0, _, _, _ => none
  | k + 1, x0, x1, x13 => if x13 = true then (some (([] : List Int), false)) else (if (IntKind.u64.wrap (x0 + (IntKind.u64.wrap (wrap64 (x1 - 1))))) < x0 then (va_Cross.j1 k x0 (IntKind.u64.wrap (x0 + (IntKind.u64.wrap (wrap64 (x1 - 1))))) true) else ((va_Canon.f k x0).bind fun t153 => (if t153 = true then ((va_Canon.f k (IntKind.u64.wrap (x0 + (IntKind.u64.wrap (wrap64 (x1 - 1)))))).bind fun t154 => (va_Cross.j1 k x0 (IntKind.u64.wrap (x0 + (IntKind.u64.wrap (wrap64 (x1 - 1))))) (!t154))) else (va_Cross.j1 k x0 (IntKind.u64.wrap (x0 + (IntKind.u64.wrap (wrap64 (x1 - 1))))) true))))
def va_Cross.j1 : Nat → Int → Int → Bool → Option (List Int × Bool)
  | 0, _, _, _ => none
  | k + 1, x0, x6, x31 => if x31 = true then (some (([] : List Int), false)) else ((va_Page.f k x0).bind fun t155 => ((va_At.f k t155).bind fun t156 => ((some (([t156] : List Int) : List Int)).bind fun y157 => ((va_Page.f k x6).bind fun t160 => ((va_Page.f k x0).bind fun t161 => (if t160 = t161 then (some (y157, true)) else ((va_Page.f k x6).bind fun t162 => ((va_At.f k t162).bind fun t163 => (if y157.length < 17592186044416 then (some ((y157 ++ [t163]), true)) else (none))))))))))
end
def va_Cross.f (k : Nat) (a0 : Int) (a1 : Int) : Option (List Int × Bool) := if a1 < 1 then (va_Cross.j0 k a0 a1 true) else (va_Cross.j0 k a0 a1 (decide (a1 > 64)))
theorem va_Cross.mono_l : ∀ k, (∀ y0 y1 y2, LeO (va_Cross.j0 k y0 y1 y2) (va_Cross.j0 (k + 1) y0 y1 y2)) ∧ (∀ y0 y1 y2, LeO (va_Cross.j1 k y0 y1 y2) (va_Cross.j1 (k + 1) y0 y1 y2))
  | 0 => ⟨fun _ _ _ r h => by simp [va_Cross.j0] at h, fun _ _ _ r h => by simp [va_Cross.j1] at h⟩
  | k + 1 => by
    obtain ⟨ih0, ih1⟩ := va_Cross.mono_l k
    refine ⟨?_, ?_⟩
    · intro y0 y1 y2
      unfold va_Cross.j0
      repeat' first
      | (with_reducible exact ih0 _ _ _)
      | (with_reducible exact ih1 _ _ _)
      | (with_reducible exact va_At.mono _ _)
      | (with_reducible exact va_Canon.mono _ _)
      | (with_reducible exact va_Page.mono _ _)
      | (with_reducible exact LeO.refl _)
      | (with_reducible exact LeO.none _)
      | (with_reducible refine LeO.ite ?_ ?_)
      | (with_reducible refine LeO.bind ?_ (fun _ => ?_))
      | exact ih0 _ _ _
      | exact ih1 _ _ _
      | exact va_At.mono _ _
      | exact va_Canon.mono _ _
      | exact va_Page.mono _ _
      | exact LeO.none _
      | refine LeO.ite ?_ ?_
      | refine LeO.bind ?_ (fun _ => ?_)
    · intro y0 y1 y2
      unfold va_Cross.j1
      repeat' first
      | (with_reducible exact ih0 _ _ _)
      | (with_reducible exact ih1 _ _ _)
      | (with_reducible exact va_At.mono _ _)
      | (with_reducible exact va_Canon.mono _ _)
      | (with_reducible exact va_Page.mono _ _)
      | (with_reducible exact LeO.refl _)
      | (with_reducible exact LeO.none _)
      | (with_reducible refine LeO.ite ?_ ?_)
      | (with_reducible refine LeO.bind ?_ (fun _ => ?_))
      | exact ih0 _ _ _
      | exact ih1 _ _ _
      | exact va_At.mono _ _
      | exact va_Canon.mono _ _
      | exact va_Page.mono _ _
      | exact LeO.none _
      | refine LeO.ite ?_ ?_
      | refine LeO.bind ?_ (fun _ => ?_)
theorem va_Cross.mono : ∀ a0 a1 k, LeO (va_Cross.f k a0 a1) (va_Cross.f (k + 1) a0 a1) := by
  intro a0 a1 k
  obtain ⟨ih0, ih1⟩ := va_Cross.mono_l k
  unfold va_Cross.f
  repeat' first
      | (with_reducible exact ih0 _ _ _)
      | (with_reducible exact ih1 _ _ _)
      | (with_reducible exact va_At.mono _ _)
      | (with_reducible exact va_Canon.mono _ _)
      | (with_reducible exact va_Page.mono _ _)
      | (with_reducible exact LeO.refl _)
      | (with_reducible exact LeO.none _)
      | (with_reducible refine LeO.ite ?_ ?_)
      | (with_reducible refine LeO.bind ?_ (fun _ => ?_))
      | exact ih0 _ _ _
      | exact ih1 _ _ _
      | exact va_At.mono _ _
      | exact va_Canon.mono _ _
      | exact va_Page.mono _ _
      | exact LeO.none _
      | refine LeO.ite ?_ ?_
      | refine LeO.bind ?_ (fun _ => ?_)
set_option maxHeartbeats 8000000 in
set_option maxRecDepth 100000 in
theorem va_Cross.calls (k : Nat) (a0 : Int) (a1 : Int) (r1 : List Int) (r2 : Bool) (w : World) (h : va_Cross.f k a0 a1 = some (r1, r2)) :
    Calls Try.prog 19 #[.int .u64 a0, .int .i64 a1] w fun e w' => ∃ v0_ : Value, e = .returned (.tuple #[v0_, .bool r2]) ∧ Kd.R (Kd.int .u64) 25 w' w.heap.size (fun _ => True) v0_ r1 ∧ Below w.heap.size w w' := by
  have HB := Aside0.mk (Below.refl w.heap.size w)
  have H : (if a1 < 1 then (va_Cross.j0 k a0 a1 true) else (va_Cross.j0 k a0 a1 (decide (a1 > 64)))) = some (r1, r2) := h
  clear h
  have HC3 := Aside0.mk H
  clear H
  go_enter Try.func19, Try.ntmps19
  go_upto_region 1 with (fail)
  go_cut [13] (fun v13 wc => ∃ (kq : Nat) (x13_2 : Bool), v13 = .bool x13_2 ∧ Aside0 (va_Cross.j0 kq a0 a1 x13_2 = some (r1, r2)) ∧ Aside0 (kq ≤ k) ∧ Aside0 (Below w.heap.size w wc))
  case first =>
    have H := HC3.out
    clear HC3
    by_cases c4 : a1 < 1
    · rw [if_pos c4] at H
      have c4b0 : decide (a1 < 1) = true := decide_eq_true c4
      clear c4
      (first | rw [c4b0] | (simp only [i64_w, i32_w]; rw [c4b0]) | skip)
      have H' := Aside0.mk H
      clear H
      go_wp2
      go_meet
      case rel => exact ⟨_, (true), (by first | rfl | (simp; done) | (simp [*]; done)), H', ⟨by first | omega | exact Nat.le_refl _⟩, ⟨by repeat (first | (with_reducible first | exact HB.out | apply below_alloc | apply pw_below_drewN | apply below_drew1) | exact HB.out)⟩⟩
    · rw [if_neg c4] at H
      have c4b0 : decide (a1 < 1) = false := decide_eq_false c4
      clear c4
      (first | rw [c4b0] | (simp only [i64_w, i32_w]; rw [c4b0]) | skip)
      have H' := Aside0.mk H
      clear H
      go_wp2
      go_meet
      case rel => exact ⟨_, (decide (a1 > 64)), (by first | rfl | (simp; done) | (simp [*]; done)), H', ⟨by first | omega | exact Nat.le_refl _⟩, ⟨by repeat (first | (with_reducible first | exact HB.out | apply below_alloc | apply pw_below_drewN | apply below_drew1) | exact HB.out)⟩⟩
  case rest =>
    clear HC3
    try clear c1
    try clear p2
    try clear c4
    try clear c4b0
    obtain ⟨kq, x13_2, rfl, HA, HJ2, HB⟩ := hcut
    cases kq with
    | zero => exact absurd HA.out (by simp [va_Cross.j0])
    | succ kj2 =>
      have H := HA.out
      clear HA
      simp only [va_Cross.j0] at H
      by_cases c5 : x13_2 = true
      · subst c5
        have H1 : (some (([] : List Int), false)) = some (r1, r2) := by rw [if_pos rfl] at H; exact H
        clear H
        have H := H1
        clear H1
        simp only [Option.some.injEq, Prod.mk.injEq] at H
        obtain ⟨rfl, rfl⟩ := H
        go_wp2
        go_ret2
        exact ⟨_, by first | rfl | (simp [errW_none, errW_some] <;> rfl) | (simp [*, errW_none, errW_some] <;> rfl), by first | exact Kd.R_nil _ _ _ _ _ | exact Kd.N_nil _ _ _ _ _ | exact Kd.V_nil _ _ _ _ _ | exact Kd.Q_nil _ _ _ _ _ | exact Kd.S_nil _ _ _ _ _, by repeat (first | (with_reducible first | exact HB.out | apply below_alloc | apply pw_below_drewN | apply below_drew1) | exact HB.out)⟩
      · replace c5 := Bool.eq_false_iff.mpr c5
        subst c5
        have H1 : (if (IntKind.u64.wrap (a0 + (IntKind.u64.wrap (wrap64 (a1 - 1))))) < a0 then (va_Cross.j1 kj2 a0 (IntKind.u64.wrap (a0 + (IntKind.u64.wrap (wrap64 (a1 - 1))))) true) else ((va_Canon.f kj2 a0).bind fun t153 => (if t153 = true then ((va_Canon.f kj2 (IntKind.u64.wrap (a0 + (IntKind.u64.wrap (wrap64 (a1 - 1)))))).bind fun t154 => (va_Cross.j1 kj2 a0 (IntKind.u64.wrap (a0 + (IntKind.u64.wrap (wrap64 (a1 - 1))))) (!t154))) else (va_Cross.j1 kj2 a0 (IntKind.u64.wrap (a0 + (IntKind.u64.wrap (wrap64 (a1 - 1))))) true)))) = some (r1, r2) := by rw [if_neg (show ¬ (false = true) by decide)] at H; exact H
        clear H
        have H := H1
        clear H1
        have HC6 := Aside0.mk H
        clear H
        go_upto_region 4 with (fail)
        go_cut [31] (fun v31 wc => ∃ (kq : Nat) (x31_5 : Bool), v31 = .bool x31_5 ∧ Aside0 (va_Cross.j1 kq a0 (IntKind.u64.wrap (a0 + (IntKind.u64.wrap (wrap64 (a1 - 1))))) x31_5 = some (r1, r2)) ∧ Aside0 (kq ≤ kj2) ∧ Aside0 (Below w.heap.size w wc))
        case first =>
          have H := HC6.out
          clear HC6
          by_cases c7 : (IntKind.u64.wrap (a0 + (IntKind.u64.wrap (wrap64 (a1 - 1))))) < a0
          · rw [if_pos c7] at H
            have c7b0 : decide ((IntKind.u64.wrap (a0 + (IntKind.u64.wrap (wrap64 (a1 - 1))))) < a0) = true := decide_eq_true c7
            clear c7
            (first | rw [c7b0] | (simp only [i64_w, i32_w]; rw [c7b0]) | skip)
            have H' := Aside0.mk H
            clear H
            go_wp2
            go_meet
            case rel => exact ⟨_, (true), (by first | rfl | (simp; done) | (simp [*]; done)), H', ⟨by have := HJ2.out; first | omega | exact Nat.le_refl _⟩, ⟨by repeat (first | (with_reducible first | exact HB.out | apply below_alloc | apply pw_below_drewN | apply below_drew1) | exact HB.out)⟩⟩
          · rw [if_neg c7] at H
            have c7b0 : decide ((IntKind.u64.wrap (a0 + (IntKind.u64.wrap (wrap64 (a1 - 1))))) < a0) = false := decide_eq_false c7
            clear c7
            (first | rw [c7b0] | (simp only [i64_w, i32_w]; rw [c7b0]) | skip)
            replace H := Option.bind_eq_some_iff.mp H
            obtain ⟨t153, A80, H⟩ := H
            replace H : (if t153 = true then ((va_Canon.f kj2 (IntKind.u64.wrap (a0 + (IntKind.u64.wrap (wrap64 (a1 - 1)))))).bind fun t154 => (va_Cross.j1 kj2 a0 (IntKind.u64.wrap (a0 + (IntKind.u64.wrap (wrap64 (a1 - 1))))) (!t154))) else (va_Cross.j1 kj2 a0 (IntKind.u64.wrap (a0 + (IntKind.u64.wrap (wrap64 (a1 - 1))))) true)) = some (r1, r2) := H
            have A8 := Aside0.mk A80
            clear A80
            by_cases c9 : t153 = true
            · subst c9
              have H1 : ((va_Canon.f kj2 (IntKind.u64.wrap (a0 + (IntKind.u64.wrap (wrap64 (a1 - 1)))))).bind fun t154 => (va_Cross.j1 kj2 a0 (IntKind.u64.wrap (a0 + (IntKind.u64.wrap (wrap64 (a1 - 1))))) (!t154))) = some (r1, r2) := by rw [if_pos rfl] at H; exact H
              clear H
              have H := H1
              clear H1
              replace H := Option.bind_eq_some_iff.mp H
              obtain ⟨t154, A100, H⟩ := H
              replace H : (va_Cross.j1 kj2 a0 (IntKind.u64.wrap (a0 + (IntKind.u64.wrap (wrap64 (a1 - 1))))) (!t154)) = some (r1, r2) := H
              have A10 := Aside0.mk A100
              clear A100
              have H' := Aside0.mk H
              clear H
              go_wp2_with (first | (go_at_call 11; (with_reducible refine (va_Canon.calls kj2 a0 true _ A8.out).mono ?_); rintro e w' ⟨rfl, ⟨nd, rfl⟩⟩) | (go_at_call 11; (with_reducible refine (va_Canon.calls kj2 (IntKind.u64.wrap (a0 + (IntKind.u64.wrap (wrap64 (a1 - 1))))) t154 _ A10.out).mono ?_); rintro e w' ⟨rfl, ⟨nd, rfl⟩⟩))
              go_meet
              case rel => exact ⟨_, (!t154), (by first | rfl | (simp; done) | (simp [*]; done)), H', ⟨by have := HJ2.out; first | omega | exact Nat.le_refl _⟩, ⟨by repeat (first | (with_reducible first | exact HB.out | apply below_alloc | apply pw_below_drewN | apply below_drew1) | exact HB.out)⟩⟩
            · replace c9 := Bool.eq_false_iff.mpr c9
              subst c9
              have H1 : (va_Cross.j1 kj2 a0 (IntKind.u64.wrap (a0 + (IntKind.u64.wrap (wrap64 (a1 - 1))))) true) = some (r1, r2) := by rw [if_neg (show ¬ (false = true) by decide)] at H; exact H
              clear H
              have H := H1
              clear H1
              have H' := Aside0.mk H
              clear H
              go_wp2_with (first | (go_at_call 11; (with_reducible refine (va_Canon.calls kj2 a0 false _ A8.out).mono ?_); rintro e w' ⟨rfl, ⟨nd, rfl⟩⟩))
              go_meet
              case rel => exact ⟨_, (true), (by first | rfl | (simp; done) | (simp [*]; done)), H', ⟨by have := HJ2.out; first | omega | exact Nat.le_refl _⟩, ⟨by repeat (first | (with_reducible first | exact HB.out | apply below_alloc | apply pw_below_drewN | apply below_drew1) | exact HB.out)⟩⟩
        case rest =>
          clear HC6
          try clear c1
          try clear p2
          try clear c4
          try clear c4b0
          try clear c5
          try clear p6
          try clear c7
          try clear c7b0
          try clear c9
          try clear p2
          obtain ⟨kq, x31_5, rfl, HA, HJ5, HB⟩ := hcut
          cases kq with
          | zero => exact absurd HA.out (by simp [va_Cross.j1])
          | succ kj5 =>
            have H := HA.out
            clear HA
            simp only [va_Cross.j1] at H
            by_cases c11 : x31_5 = true
            · subst c11
              have H1 : (some (([] : List Int), false)) = some (r1, r2) := by rw [if_pos rfl] at H; exact H
              clear H
              have H := H1
              clear H1
              simp only [Option.some.injEq, Prod.mk.injEq] at H
              obtain ⟨rfl, rfl⟩ := H
              go_wp2
              go_ret2
              exact ⟨_, by first | rfl | (simp [errW_none, errW_some] <;> rfl) | (simp [*, errW_none, errW_some] <;> rfl), by first | exact Kd.R_nil _ _ _ _ _ | exact Kd.N_nil _ _ _ _ _ | exact Kd.V_nil _ _ _ _ _ | exact Kd.Q_nil _ _ _ _ _ | exact Kd.S_nil _ _ _ _ _, by repeat (first | (with_reducible first | exact HB.out | apply below_alloc | apply pw_below_drewN | apply below_drew1) | exact HB.out)⟩
            · replace c11 := Bool.eq_false_iff.mpr c11
              subst c11
              have H1 : ((va_Page.f kj5 a0).bind fun t155 => ((va_At.f kj5 t155).bind fun t156 => ((some (([t156] : List Int) : List Int)).bind fun y157 => ((va_Page.f kj5 (IntKind.u64.wrap (a0 + (IntKind.u64.wrap (wrap64 (a1 - 1)))))).bind fun t160 => ((va_Page.f kj5 a0).bind fun t161 => (if t160 = t161 then (some (y157, true)) else ((va_Page.f kj5 (IntKind.u64.wrap (a0 + (IntKind.u64.wrap (wrap64 (a1 - 1)))))).bind fun t162 => ((va_At.f kj5 t162).bind fun t163 => (if y157.length < 17592186044416 then (some ((y157 ++ [t163]), true)) else (none)))))))))) = some (r1, r2) := by rw [if_neg (show ¬ (false = true) by decide)] at H; exact H
              clear H
              have H := H1
              clear H1
              replace H := Option.bind_eq_some_iff.mp H
              obtain ⟨t155, A120, H⟩ := H
              replace H : ((va_At.f kj5 t155).bind fun t156 => ((some (([t156] : List Int) : List Int)).bind fun y157 => ((va_Page.f kj5 (IntKind.u64.wrap (a0 + (IntKind.u64.wrap (wrap64 (a1 - 1)))))).bind fun t160 => ((va_Page.f kj5 a0).bind fun t161 => (if t160 = t161 then (some (y157, true)) else ((va_Page.f kj5 (IntKind.u64.wrap (a0 + (IntKind.u64.wrap (wrap64 (a1 - 1)))))).bind fun t162 => ((va_At.f kj5 t162).bind fun t163 => (if y157.length < 17592186044416 then (some ((y157 ++ [t163]), true)) else (none))))))))) = some (r1, r2) := H
              have A12 := Aside0.mk A120
              clear A120
              replace H := Option.bind_eq_some_iff.mp H
              obtain ⟨t156, A130, H⟩ := H
              replace H : ((some (([t156] : List Int) : List Int)).bind fun y157 => ((va_Page.f kj5 (IntKind.u64.wrap (a0 + (IntKind.u64.wrap (wrap64 (a1 - 1)))))).bind fun t160 => ((va_Page.f kj5 a0).bind fun t161 => (if t160 = t161 then (some (y157, true)) else ((va_Page.f kj5 (IntKind.u64.wrap (a0 + (IntKind.u64.wrap (wrap64 (a1 - 1)))))).bind fun t162 => ((va_At.f kj5 t162).bind fun t163 => (if y157.length < 17592186044416 then (some ((y157 ++ [t163]), true)) else (none)))))))) = some (r1, r2) := H
              have A13 := Aside0.mk A130
              clear A130
              obtain ⟨y157, hy157⟩ : ∃ y_ : List Int, y_ = (([t156] : List Int)) := ⟨_, rfl⟩
              replace H : ((va_Page.f kj5 (IntKind.u64.wrap (a0 + (IntKind.u64.wrap (wrap64 (a1 - 1)))))).bind fun t160 => ((va_Page.f kj5 a0).bind fun t161 => (if t160 = t161 then (some (y157, true)) else ((va_Page.f kj5 (IntKind.u64.wrap (a0 + (IntKind.u64.wrap (wrap64 (a1 - 1)))))).bind fun t162 => ((va_At.f kj5 t162).bind fun t163 => (if y157.length < 17592186044416 then (some ((y157 ++ [t163]), true)) else (none))))))) = some (r1, r2) := by first | (rw [hy157]; with_reducible exact H) | (have H2_ := (Option.bind_some _ _).symm.trans H; rw [hy157]; with_reducible exact H2_) | (have H2_ := (Option.bind_some _ _).symm.trans H; with_reducible exact H2_) | with_reducible exact H | (rw [hy157]; exact H) | exact H
              have Ny157 := Aside0.mk hy157
              clear hy157
              replace H := Option.bind_eq_some_iff.mp H
              obtain ⟨t160, A140, H⟩ := H
              replace H : ((va_Page.f kj5 a0).bind fun t161 => (if t160 = t161 then (some (y157, true)) else ((va_Page.f kj5 (IntKind.u64.wrap (a0 + (IntKind.u64.wrap (wrap64 (a1 - 1)))))).bind fun t162 => ((va_At.f kj5 t162).bind fun t163 => (if y157.length < 17592186044416 then (some ((y157 ++ [t163]), true)) else (none)))))) = some (r1, r2) := H
              have A14 := Aside0.mk A140
              clear A140
              replace H := Option.bind_eq_some_iff.mp H
              obtain ⟨t161, A150, H⟩ := H
              replace H : (if t160 = t161 then (some (y157, true)) else ((va_Page.f kj5 (IntKind.u64.wrap (a0 + (IntKind.u64.wrap (wrap64 (a1 - 1)))))).bind fun t162 => ((va_At.f kj5 t162).bind fun t163 => (if y157.length < 17592186044416 then (some ((y157 ++ [t163]), true)) else (none))))) = some (r1, r2) := H
              have A15 := Aside0.mk A150
              clear A150
              by_cases c16 : t160 = t161
              · rw [if_pos c16] at H
                have c16b0 : (t160 == t161) = true := beq_iff_eq.mpr c16
                have c16b1 : (t160 != t161) = false := bne_eq_false_iff_eq.mpr c16
                clear c16
                simp only [Option.some.injEq, Prod.mk.injEq] at H
                obtain ⟨rfl, rfl⟩ := H
                go_wp2_with (first | ((with_reducible refine gate_callee (f := 13) rfl ?_); refine goesL_ (some 33) rfl rfl Try.func13 (by kernel_rfl) rfl #[.int .u64 a0] rfl (by (try simp only [List.map_toArray, List.map_cons, List.map_nil]); first | done | rfl | (simp only [List.length_drop, List.length_take]; rfl)) ?_; (with_reducible refine (va_Page.calls kj5 a0 t155 _ A12.out).mono ?_); rintro e w' ⟨rfl, ⟨nd, rfl⟩⟩; refine ⟨_, rfl, ?_⟩) | ((with_reducible refine gate_callee (f := 18) rfl ?_); refine goesL_ (some 34) rfl rfl Try.func18 (by kernel_rfl) rfl #[.int .i64 t155] rfl (by (try simp only [List.map_toArray, List.map_cons, List.map_nil]); first | done | rfl | (simp only [List.length_drop, List.length_take]; rfl)) ?_; (with_reducible refine (va_At.calls kj5 t155 t156 _ A13.out).mono ?_); rintro e w' ⟨rfl, ⟨nd, rfl⟩⟩; refine ⟨_, rfl, ?_⟩) | ((with_reducible refine gate_dst (N := 35) rfl ?_); refine Kd.R_lit (Kd.int .u64) _ 25 ?hg (N := 35) ?hd (xs := ([t156] : List Int)) (inner := [.int .u64 t156]) (ok := fun _ => True) (okp := fun _ => True) ?hr ?hp (fun _ hk => hk) trivial (Below.refl _ _) (Nat.le_refl _) (by simp) ?_; (case hd => rfl); (case hg => rfl); (case hr => first | (go_simp; done) | (go_simp; rfl)); (case hp => exact (Reps.one (show Kd.M (Kd.int .u64) _ _ _ t156 [.int .u64 t156] from rfl) (Reps.none _ _))); intro v158 w17 ho18 hb hg_ hnew_; clear hg_ hnew_; (first | rw [← Ny157.out] at ho18 | (simp only [Int.reduceToNat] at ho18; rw [← Ny157.out] at ho18)); have n0_ := Aside0.mk (Kd.R_lower ho18 (below_size (by repeat (first | (with_reducible first | exact HB.out | apply below_alloc | apply pw_below_drewN | apply below_drew1) | exact HB.out)))); have n1_ := Aside0.mk (below_step (by repeat (first | (with_reducible first | exact HB.out | apply below_alloc | apply pw_below_drewN | apply below_drew1) | exact HB.out)) hb); clear HB; have HO159 := n0_; have HB := n1_; clear n0_ n1_; clear hb ho18) | ((with_reducible refine gate_callee (f := 13) rfl ?_); refine goesL_ (some 37) rfl rfl Try.func13 (by kernel_rfl) rfl #[.int .u64 (IntKind.u64.wrap (a0 + (IntKind.u64.wrap (wrap64 (a1 - 1)))))] rfl (by (try simp only [List.map_toArray, List.map_cons, List.map_nil]); first | done | rfl | (simp only [List.length_drop, List.length_take]; rfl)) ?_; (with_reducible refine (va_Page.calls kj5 (IntKind.u64.wrap (a0 + (IntKind.u64.wrap (wrap64 (a1 - 1))))) t160 _ A14.out).mono ?_); rintro e w' ⟨rfl, ⟨nd, rfl⟩⟩; refine ⟨_, rfl, ?_⟩) | ((with_reducible refine gate_callee (f := 13) rfl ?_); refine goesL_ (some 39) rfl rfl Try.func13 (by kernel_rfl) rfl #[.int .u64 a0] rfl (by (try simp only [List.map_toArray, List.map_cons, List.map_nil]); first | done | rfl | (simp only [List.length_drop, List.length_take]; rfl)) ?_; (with_reducible refine (va_Page.calls kj5 a0 t161 _ A15.out).mono ?_); rintro e w' ⟨rfl, ⟨nd, rfl⟩⟩; refine ⟨_, rfl, ?_⟩))
                go_ret2
                exact ⟨_, by first | rfl | (simp [errW_none, errW_some] <;> rfl) | (simp [*, errW_none, errW_some] <;> rfl), by (with_reducible repeat (first | apply Kd.R_alloc | apply Kd.R_drewN | apply Kd.R_drew)); exact HO159.out, by repeat (first | (with_reducible first | exact HB.out | apply below_alloc | apply pw_below_drewN | apply below_drew1) | exact HB.out)⟩
              · rw [if_neg c16] at H
                have c16b0 : (t160 == t161) = false := beq_eq_false_iff_ne.mpr c16
                have c16b1 : (t160 != t161) = true := bne_iff_ne.mpr c16
                replace H := Option.bind_eq_some_iff.mp H
                obtain ⟨t162, A190, H⟩ := H
                obtain rfl : t162 = t160 := Option.some.inj (A190.symm.trans A14.out)
                replace H : ((va_At.f kj5 t162).bind fun t163 => (if y157.length < 17592186044416 then (some ((y157 ++ [t163]), true)) else (none))) = some (r1, r2) := H
                have A19 := Aside0.mk A190
                clear A190
                replace H := Option.bind_eq_some_iff.mp H
                obtain ⟨t163, A200, H⟩ := H
                replace H : (if y157.length < 17592186044416 then (some ((y157 ++ [t163]), true)) else (none)) = some (r1, r2) := H
                have A20 := Aside0.mk A200
                clear A200
                by_cases c21 : y157.length < 17592186044416
                · rw [if_pos c21] at H
                  have LMc21 := Aside0.mk c21
                  clear c21
                  obtain ⟨y164, hy164⟩ : ∃ y_ : List Int, y_ = (y157 ++ [t163]) := ⟨_, rfl⟩
                  replace H : (some (y164, true)) = some (r1, r2) := by first | (rw [hy164]; with_reducible exact H) | (have H2_ := (Option.bind_some _ _).symm.trans H; rw [hy164]; with_reducible exact H2_) | (have H2_ := (Option.bind_some _ _).symm.trans H; with_reducible exact H2_) | with_reducible exact H | (rw [hy164]; exact H) | exact H
                  have Ny164 := Aside0.mk hy164
                  clear hy164
                  simp only [Option.some.injEq, Prod.mk.injEq] at H
                  obtain ⟨rfl, rfl⟩ := H
                  go_wp2_with (first | ((with_reducible refine gate_callee (f := 13) rfl ?_); refine goesL_ (some 33) rfl rfl Try.func13 (by kernel_rfl) rfl #[.int .u64 a0] rfl (by (try simp only [List.map_toArray, List.map_cons, List.map_nil]); first | done | rfl | (simp only [List.length_drop, List.length_take]; rfl)) ?_; (with_reducible refine (va_Page.calls kj5 a0 t155 _ A12.out).mono ?_); rintro e w' ⟨rfl, ⟨nd, rfl⟩⟩; refine ⟨_, rfl, ?_⟩) | ((with_reducible refine gate_callee (f := 18) rfl ?_); refine goesL_ (some 34) rfl rfl Try.func18 (by kernel_rfl) rfl #[.int .i64 t155] rfl (by (try simp only [List.map_toArray, List.map_cons, List.map_nil]); first | done | rfl | (simp only [List.length_drop, List.length_take]; rfl)) ?_; (with_reducible refine (va_At.calls kj5 t155 t156 _ A13.out).mono ?_); rintro e w' ⟨rfl, ⟨nd, rfl⟩⟩; refine ⟨_, rfl, ?_⟩) | ((with_reducible refine gate_dst (N := 35) rfl ?_); refine Kd.R_lit (Kd.int .u64) _ 25 ?hg (N := 35) ?hd (xs := ([t156] : List Int)) (inner := [.int .u64 t156]) (ok := fun _ => True) (okp := fun _ => True) ?hr ?hp (fun _ hk => hk) trivial (Below.refl _ _) (Nat.le_refl _) (by simp) ?_; (case hd => rfl); (case hg => rfl); (case hr => first | (go_simp; done) | (go_simp; rfl)); (case hp => exact (Reps.one (show Kd.M (Kd.int .u64) _ _ _ t156 [.int .u64 t156] from rfl) (Reps.none _ _))); intro v158 w22 ho23 hb hg_ hnew_; clear hg_ hnew_; (first | rw [← Ny157.out] at ho23 | (simp only [Int.reduceToNat] at ho23; rw [← Ny157.out] at ho23)); have n0_ := Aside0.mk (Kd.R_lower ho23 (below_size (by repeat (first | (with_reducible first | exact HB.out | apply below_alloc | apply pw_below_drewN | apply below_drew1) | exact HB.out)))); have n1_ := Aside0.mk (below_step (by repeat (first | (with_reducible first | exact HB.out | apply below_alloc | apply pw_below_drewN | apply below_drew1) | exact HB.out)) hb); clear HB; have HO159 := n0_; have HB := n1_; clear n0_ n1_; clear hb ho23) | ((with_reducible refine gate_callee (f := 13) rfl ?_); refine goesL_ (some 37) rfl rfl Try.func13 (by kernel_rfl) rfl #[.int .u64 (IntKind.u64.wrap (a0 + (IntKind.u64.wrap (wrap64 (a1 - 1)))))] rfl (by (try simp only [List.map_toArray, List.map_cons, List.map_nil]); first | done | rfl | (simp only [List.length_drop, List.length_take]; rfl)) ?_; (with_reducible refine (va_Page.calls kj5 (IntKind.u64.wrap (a0 + (IntKind.u64.wrap (wrap64 (a1 - 1))))) t162 _ A14.out).mono ?_); rintro e w' ⟨rfl, ⟨nd, rfl⟩⟩; refine ⟨_, rfl, ?_⟩) | ((with_reducible refine gate_callee (f := 13) rfl ?_); refine goesL_ (some 39) rfl rfl Try.func13 (by kernel_rfl) rfl #[.int .u64 a0] rfl (by (try simp only [List.map_toArray, List.map_cons, List.map_nil]); first | done | rfl | (simp only [List.length_drop, List.length_take]; rfl)) ?_; (with_reducible refine (va_Page.calls kj5 a0 t161 _ A15.out).mono ?_); rintro e w' ⟨rfl, ⟨nd, rfl⟩⟩; refine ⟨_, rfl, ?_⟩) | ((with_reducible refine gate_callee (f := 13) rfl ?_); refine goesL_ (some 43) rfl rfl Try.func13 (by kernel_rfl) rfl #[.int .u64 (IntKind.u64.wrap (a0 + (IntKind.u64.wrap (wrap64 (a1 - 1)))))] rfl (by (try simp only [List.map_toArray, List.map_cons, List.map_nil]); first | done | rfl | (simp only [List.length_drop, List.length_take]; rfl)) ?_; (with_reducible refine (va_Page.calls kj5 (IntKind.u64.wrap (a0 + (IntKind.u64.wrap (wrap64 (a1 - 1))))) t162 _ A19.out).mono ?_); rintro e w' ⟨rfl, ⟨nd, rfl⟩⟩; refine ⟨_, rfl, ?_⟩) | ((with_reducible refine gate_callee (f := 18) rfl ?_); refine goesL_ (some 44) rfl rfl Try.func18 (by kernel_rfl) rfl #[.int .i64 t162] rfl (by (try simp only [List.map_toArray, List.map_cons, List.map_nil]); first | done | rfl | (simp only [List.length_drop, List.length_take]; rfl)) ?_; (with_reducible refine (va_At.calls kj5 t162 t163 _ A20.out).mono ?_); rintro e w' ⟨rfl, ⟨nd, rfl⟩⟩; refine ⟨_, rfl, ?_⟩) | ((with_reducible refine gate_builtin (b := .append) (xs := #[.tmp 41, .tmp 45]) rfl ?_); at_builtin; refine Kd.R_append (Kd.int .u64) (w0 := w) w.heap.size rfl (.tmp 41) (.tmp 45) 36 25 (.int .u64 0) 8 rfl Try.underlying36 info25 rfl (by decide) (by omega) v158 y157 t163 [.int .u64 t163] (fun _ => True) (fun _ => False) rfl rfl ?aP (fun _ hk => hk.elim) ?aF ?aO ?aB ?aS ?aL ?_; (case aP => exact rfl); (case aB => exact (by repeat (first | (with_reducible first | exact HB.out | apply below_alloc | apply pw_below_drewN | apply below_drew1) | exact HB.out))); (case aF => exact (fun _ _ => trivial)); (case aO => exact (by (with_reducible repeat (first | apply Kd.R_alloc | apply Kd.R_drewN | apply Kd.R_drew)); exact HO159.out)); (case aS => exact (below_size (by repeat (first | (with_reducible first | exact HB.out | apply below_alloc | apply pw_below_drewN | apply below_drew1) | exact HB.out)))); (case aL => have := LMc21.out; omega); intro v165 w24 ho hb hg hat; rw [← Ny164.out] at ho; have n0_ := Aside0.mk (hb); have n1_ := Aside0.mk (ho); clear HB; clear HO159; have HB := n0_; have HO166 := n1_; clear n0_ n1_; clear ho hb hg hat))
                  go_ret2
                  exact ⟨_, by first | rfl | (simp [errW_none, errW_some] <;> rfl) | (simp [*, errW_none, errW_some] <;> rfl), by (with_reducible repeat (first | apply Kd.R_alloc | apply Kd.R_drewN | apply Kd.R_drew)); exact HO166.out, by repeat (first | (with_reducible first | exact HB.out | apply below_alloc | apply pw_below_drewN | apply below_drew1) | exact HB.out)⟩
                · rw [if_neg c21] at H
                  exact absurd H (by simp)

/-! ### gunnyref30_Cross: function 20 -/
mutual
def gunnyref30_Cross.j0 : Nat → Int → Int → Bool → Option (List Int × Bool)
  | 0, _, _, _ => none
  | k + 1, x0, x1, x15 => if x15 = true then (some (([] : List Int), false)) else (gunnyref30_Cross.l0 k x0 x1 ([] : List Int) 0)
def gunnyref30_Cross.l0 : Nat → Int → Int → List Int → Int → Option (List Int × Bool)
  | 0, _, _, _, _ => none
  | k + 1, x0, x1, x6, x7 => if x7 < x1 then (if (IntKind.u64.wrap (x0 + (IntKind.u64.wrap (x7)))) < x0 then (gunnyref30_Cross.j2 k x0 x1 x6 x7 (IntKind.u64.wrap (x0 + (IntKind.u64.wrap (x7)))) true) else ((gunnyref30_Canon.f k (IntKind.u64.wrap (x0 + (IntKind.u64.wrap (x7))))).bind fun t167 => (gunnyref30_Cross.j2 k x0 x1 x6 x7 (IntKind.u64.wrap (x0 + (IntKind.u64.wrap (x7)))) (!t167)))) else (some (x6, true))
def gunnyref30_Cross.j2 : Nat → Int → Int → List Int → Int → Int → Bool → Option (List Int × Bool)
  | 0, _, _, _, _, _, _ => none
  | k + 1, x0, x1, x6, x7, x8, x32 => if x32 = true then (some (([] : List Int), false)) else (if (x6.length : Int) = 0 then (if x6.length < 17592186044416 then (gunnyref30_Cross.l0 k x0 x1 (x6 ++ [IntKind.u64.wrap (x8 - (Int.tmod x8 4096))]) (wrap64 (x7 + 1))) else (none)) else (if 0 ≤ (wrap64 ((x6.length : Int) - 1)) then (if (wrap64 ((x6.length : Int) - 1)) < (x6.length : Int) then (if (rd x6 (wrap64 ((x6.length : Int) - 1))) = (IntKind.u64.wrap (x8 - (Int.tmod x8 4096))) then (gunnyref30_Cross.l0 k x0 x1 x6 (wrap64 (x7 + 1))) else (if x6.length < 17592186044416 then (gunnyref30_Cross.l0 k x0 x1 (x6 ++ [IntKind.u64.wrap (x8 - (Int.tmod x8 4096))]) (wrap64 (x7 + 1))) else (none))) else (none)) else (none)))
end
def gunnyref30_Cross.f (k : Nat) (a0 : Int) (a1 : Int) : Option (List Int × Bool) := if a1 < 1 then (gunnyref30_Cross.j0 k a0 a1 true) else (gunnyref30_Cross.j0 k a0 a1 (decide (a1 > 64)))
theorem gunnyref30_Cross.mono_l : ∀ k, (∀ y0 y1 y2, LeO (gunnyref30_Cross.j0 k y0 y1 y2) (gunnyref30_Cross.j0 (k + 1) y0 y1 y2)) ∧ (∀ y0 y1 y2 y3, LeO (gunnyref30_Cross.l0 k y0 y1 y2 y3) (gunnyref30_Cross.l0 (k + 1) y0 y1 y2 y3)) ∧ (∀ y0 y1 y2 y3 y4 y5, LeO (gunnyref30_Cross.j2 k y0 y1 y2 y3 y4 y5) (gunnyref30_Cross.j2 (k + 1) y0 y1 y2 y3 y4 y5))
  | 0 => ⟨fun _ _ _ r h => by simp [gunnyref30_Cross.j0] at h, fun _ _ _ _ r h => by simp [gunnyref30_Cross.l0] at h, fun _ _ _ _ _ _ r h => by simp [gunnyref30_Cross.j2] at h⟩
  | k + 1 => by
    obtain ⟨ih0, ih1, ih2⟩ := gunnyref30_Cross.mono_l k
    refine ⟨?_, ?_, ?_⟩
    · intro y0 y1 y2
      unfold gunnyref30_Cross.j0
      repeat' first
      | (with_reducible exact ih0 _ _ _)
      | (with_reducible exact ih1 _ _ _ _)
      | (with_reducible exact ih2 _ _ _ _ _ _)
      | (with_reducible exact gunnyref30_Canon.mono _ _)
      | (with_reducible exact LeO.refl _)
      | (with_reducible exact LeO.none _)
      | (with_reducible refine LeO.ite ?_ ?_)
      | (with_reducible refine LeO.bind ?_ (fun _ => ?_))
      | exact ih0 _ _ _
      | exact ih1 _ _ _ _
      | exact ih2 _ _ _ _ _ _
      | exact gunnyref30_Canon.mono _ _
      | exact LeO.none _
      | refine LeO.ite ?_ ?_
      | refine LeO.bind ?_ (fun _ => ?_)
    · intro y0 y1 y2 y3
      unfold gunnyref30_Cross.l0
      repeat' first
      | (with_reducible exact ih0 _ _ _)
      | (with_reducible exact ih1 _ _ _ _)
      | (with_reducible exact ih2 _ _ _ _ _ _)
      | (with_reducible exact gunnyref30_Canon.mono _ _)
      | (with_reducible exact LeO.refl _)
      | (with_reducible exact LeO.none _)
      | (with_reducible refine LeO.ite ?_ ?_)
      | (with_reducible refine LeO.bind ?_ (fun _ => ?_))
      | exact ih0 _ _ _
      | exact ih1 _ _ _ _
      | exact ih2 _ _ _ _ _ _
      | exact gunnyref30_Canon.mono _ _
      | exact LeO.none _
      | refine LeO.ite ?_ ?_
      | refine LeO.bind ?_ (fun _ => ?_)
    · intro y0 y1 y2 y3 y4 y5
      unfold gunnyref30_Cross.j2
      repeat' first
      | (with_reducible exact ih0 _ _ _)
      | (with_reducible exact ih1 _ _ _ _)
      | (with_reducible exact ih2 _ _ _ _ _ _)
      | (with_reducible exact gunnyref30_Canon.mono _ _)
      | (with_reducible exact LeO.refl _)
      | (with_reducible exact LeO.none _)
      | (with_reducible refine LeO.ite ?_ ?_)
      | (with_reducible refine LeO.bind ?_ (fun _ => ?_))
      | exact ih0 _ _ _
      | exact ih1 _ _ _ _
      | exact ih2 _ _ _ _ _ _
      | exact gunnyref30_Canon.mono _ _
      | exact LeO.none _
      | refine LeO.ite ?_ ?_
      | refine LeO.bind ?_ (fun _ => ?_)
theorem gunnyref30_Cross.mono : ∀ a0 a1 k, LeO (gunnyref30_Cross.f k a0 a1) (gunnyref30_Cross.f (k + 1) a0 a1) := by
  intro a0 a1 k
  obtain ⟨ih0, ih1, ih2⟩ := gunnyref30_Cross.mono_l k
  unfold gunnyref30_Cross.f
  repeat' first
      | (with_reducible exact ih0 _ _ _)
      | (with_reducible exact ih1 _ _ _ _)
      | (with_reducible exact ih2 _ _ _ _ _ _)
      | (with_reducible exact gunnyref30_Canon.mono _ _)
      | (with_reducible exact LeO.refl _)
      | (with_reducible exact LeO.none _)
      | (with_reducible refine LeO.ite ?_ ?_)
      | (with_reducible refine LeO.bind ?_ (fun _ => ?_))
      | exact ih0 _ _ _
      | exact ih1 _ _ _ _
      | exact ih2 _ _ _ _ _ _
      | exact gunnyref30_Canon.mono _ _
      | exact LeO.none _
      | refine LeO.ite ?_ ?_
      | refine LeO.bind ?_ (fun _ => ?_)
set_option maxHeartbeats 8000000 in
set_option maxRecDepth 100000 in
theorem gunnyref30_Cross.calls (k : Nat) (a0 : Int) (a1 : Int) (r1 : List Int) (r2 : Bool) (w : World) (h : gunnyref30_Cross.f k a0 a1 = some (r1, r2)) :
    Calls Try.prog 20 #[.int .u64 a0, .int .i64 a1] w fun e w' => ∃ v0_ : Value, e = .returned (.tuple #[v0_, .bool r2]) ∧ Kd.R (Kd.int .u64) 25 w' w.heap.size (fun _ => True) v0_ r1 ∧ Below w.heap.size w w' := by
  have HB := Aside0.mk (Below.refl w.heap.size w)
  have H : (if a1 < 1 then (gunnyref30_Cross.j0 k a0 a1 true) else (gunnyref30_Cross.j0 k a0 a1 (decide (a1 > 64)))) = some (r1, r2) := h
  clear h
  have HC3 := Aside0.mk H
  clear H
  go_enter Try.func20, Try.ntmps20
  go_upto_region 1 with (fail)
  go_cut [15] (fun v15 wc => ∃ (kq : Nat) (x15_2 : Bool), v15 = .bool x15_2 ∧ Aside0 (gunnyref30_Cross.j0 kq a0 a1 x15_2 = some (r1, r2)) ∧ Aside0 (kq ≤ k) ∧ Aside0 (Below w.heap.size w wc))
  case first =>
    have H := HC3.out
    clear HC3
    by_cases c4 : a1 < 1
    · rw [if_pos c4] at H
      have c4b0 : decide (a1 < 1) = true := decide_eq_true c4
      clear c4
      (first | rw [c4b0] | (simp only [i64_w, i32_w]; rw [c4b0]) | skip)
      have H' := Aside0.mk H
      clear H
      go_wp2
      go_meet
      case rel => exact ⟨_, (true), (by first | rfl | (simp; done) | (simp [*]; done)), H', ⟨by first | omega | exact Nat.le_refl _⟩, ⟨by repeat (first | (with_reducible first | exact HB.out | apply below_alloc | apply pw_below_drewN | apply below_drew1) | exact HB.out)⟩⟩
    · rw [if_neg c4] at H
      have c4b0 : decide (a1 < 1) = false := decide_eq_false c4
      clear c4
      (first | rw [c4b0] | (simp only [i64_w, i32_w]; rw [c4b0]) | skip)
      have H' := Aside0.mk H
      clear H
      go_wp2
      go_meet
      case rel => exact ⟨_, (decide (a1 > 64)), (by first | rfl | (simp; done) | (simp [*]; done)), H', ⟨by first | omega | exact Nat.le_refl _⟩, ⟨by repeat (first | (with_reducible first | exact HB.out | apply below_alloc | apply pw_below_drewN | apply below_drew1) | exact HB.out)⟩⟩
  case rest =>
    clear HC3
    try clear c2
    try clear p2
    try clear c4
    try clear c4b0
    obtain ⟨kq, x15_2, rfl, HA, HJ2, HB⟩ := hcut
    cases kq with
    | zero => exact absurd HA.out (by simp [gunnyref30_Cross.j0])
    | succ kj2 =>
      have H := HA.out
      clear HA
      simp only [gunnyref30_Cross.j0] at H
      by_cases c5 : x15_2 = true
      · subst c5
        have H1 : (some (([] : List Int), false)) = some (r1, r2) := by rw [if_pos rfl] at H; exact H
        clear H
        have H := H1
        clear H1
        simp only [Option.some.injEq, Prod.mk.injEq] at H
        obtain ⟨rfl, rfl⟩ := H
        go_wp2
        go_ret2
        exact ⟨_, by first | rfl | (simp [errW_none, errW_some] <;> rfl) | (simp [*, errW_none, errW_some] <;> rfl), by first | exact Kd.R_nil _ _ _ _ _ | exact Kd.N_nil _ _ _ _ _ | exact Kd.V_nil _ _ _ _ _ | exact Kd.Q_nil _ _ _ _ _ | exact Kd.S_nil _ _ _ _ _, by repeat (first | (with_reducible first | exact HB.out | apply below_alloc | apply pw_below_drewN | apply below_drew1) | exact HB.out)⟩
      · replace c5 := Bool.eq_false_iff.mpr c5
        subst c5
        have H1 : (gunnyref30_Cross.l0 kj2 a0 a1 ([] : List Int) 0) = some (r1, r2) := by rw [if_neg (show ¬ (false = true) by decide)] at H; exact H
        clear H
        have H := H1
        clear H1
        have H' := Aside0.mk H
        clear H
        go_wp2
        go_loopg [6, 7] kj2 (fun kq v6 v7 w' => ∃ (x6_2 : List Int) (x7_2 : Int), v7 = .int .i64 x7_2 ∧ Aside0 (gunnyref30_Cross.l0 kq a0 a1 x6_2 x7_2 = some (r1, r2)) ∧ Aside0 (kq ≤ kj2) ∧ Aside0 (Kd.R (Kd.int .u64) 25 w' w.heap.size (fun _ => True) v6 x6_2) ∧ Aside0 (Below w.heap.size w w'))
        case atStart => exact ⟨(([] : List Int)), (0), (by first | rfl | (simp; done) | (simp [*]; done)), H', ⟨Nat.le_refl _⟩, ⟨by first | exact Kd.R_nil _ _ _ _ _ | exact Kd.N_nil _ _ _ _ _ | exact Kd.V_nil _ _ _ _ _ | exact Kd.Q_nil _ _ _ _ _ | exact Kd.S_nil _ _ _ _ _⟩, ⟨by repeat (first | (with_reducible first | exact HB.out | apply below_alloc | apply pw_below_drewN | apply below_drew1) | exact HB.out)⟩⟩
        case round =>
          clear H'
          try clear c2
          try clear p2
          try clear c4
          try clear c4b0
          try clear c5
          try clear p2
          obtain ⟨x6_2, x7_2, rfl, HA, HK2, HO_6, HB⟩ := hrel
          cases gk with
          | zero => exact absurd HA.out (by simp [gunnyref30_Cross.l0])
          | succ k2 =>
            have H := HA.out
            clear HA
            simp only [gunnyref30_Cross.l0] at H
            by_cases c6 : x7_2 < a1
            · rw [if_pos c6] at H
              have c6b0 : decide (x7_2 < a1) = true := decide_eq_true c6
              clear c6
              have HC7 := Aside0.mk H
              clear H
              go_upto_region 8 with (fail)
              go_cut [32] (fun v32 wc => ∃ (kq : Nat) (x32_6 : Bool), v32 = .bool x32_6 ∧ Aside0 (gunnyref30_Cross.j2 kq a0 a1 x6_2 x7_2 (IntKind.u64.wrap (a0 + (IntKind.u64.wrap (x7_2)))) x32_6 = some (r1, r2)) ∧ Aside0 (kq ≤ k2) ∧ Aside0 (Kd.R (Kd.int .u64) 25 wc w.heap.size (fun _ => True) u6 x6_2) ∧ Aside0 (Below w.heap.size w wc))
              case first =>
                have H := HC7.out
                clear HC7
                by_cases c8 : (IntKind.u64.wrap (a0 + (IntKind.u64.wrap (x7_2)))) < a0
                · rw [if_pos c8] at H
                  have c8b0 : decide ((IntKind.u64.wrap (a0 + (IntKind.u64.wrap (x7_2)))) < a0) = true := decide_eq_true c8
                  clear c8
                  (first | rw [c8b0] | (simp only [i64_w, i32_w]; rw [c8b0]) | skip)
                  have H' := Aside0.mk H
                  clear H
                  go_wp2
                  go_meet
                  case rel => exact ⟨_, (true), (by first | rfl | (simp; done) | (simp [*]; done)), H', ⟨by have := HJ2.out; have := HK2.out; first | omega | exact Nat.le_refl _⟩, ⟨by (with_reducible repeat (first | apply Kd.R_alloc | apply Kd.R_drewN | apply Kd.R_drew)); exact HO_6.out⟩, ⟨by repeat (first | (with_reducible first | exact HB.out | apply below_alloc | apply pw_below_drewN | apply below_drew1) | exact HB.out)⟩⟩
                · rw [if_neg c8] at H
                  have c8b0 : decide ((IntKind.u64.wrap (a0 + (IntKind.u64.wrap (x7_2)))) < a0) = false := decide_eq_false c8
                  clear c8
                  (first | rw [c8b0] | (simp only [i64_w, i32_w]; rw [c8b0]) | skip)
                  replace H := Option.bind_eq_some_iff.mp H
                  obtain ⟨t167, A90, H⟩ := H
                  replace H : (gunnyref30_Cross.j2 k2 a0 a1 x6_2 x7_2 (IntKind.u64.wrap (a0 + (IntKind.u64.wrap (x7_2)))) (!t167)) = some (r1, r2) := H
                  have A9 := Aside0.mk A90
                  clear A90
                  have H' := Aside0.mk H
                  clear H
                  go_wp2_with (first | (go_at_call 12; (with_reducible refine (gunnyref30_Canon.calls k2 (IntKind.u64.wrap (a0 + (IntKind.u64.wrap (x7_2)))) t167 _ A9.out).mono ?_); rintro e w' ⟨rfl, ⟨nd, rfl⟩⟩))
                  go_meet
                  case rel => exact ⟨_, (!t167), (by first | rfl | (simp; done) | (simp [*]; done)), H', ⟨by have := HJ2.out; have := HK2.out; first | omega | exact Nat.le_refl _⟩, ⟨by (with_reducible repeat (first | apply Kd.R_alloc | apply Kd.R_drewN | apply Kd.R_drew)); exact HO_6.out⟩, ⟨by repeat (first | (with_reducible first | exact HB.out | apply below_alloc | apply pw_below_drewN | apply below_drew1) | exact HB.out)⟩⟩
              case rest =>
                clear HC7
                try clear c2
                try clear p2
                try clear c4
                try clear c4b0
                try clear c5
                try clear c6
                try clear c6b0
                try clear c8
                try clear c8b0
                try clear p2
                obtain ⟨kq, x32_6, rfl, HA, HJ6, HO_6, HB⟩ := hcut
                cases kq with
                | zero => exact absurd HA.out (by simp [gunnyref30_Cross.j2])
                | succ kj6 =>
                  have H := HA.out
                  clear HA
                  simp only [gunnyref30_Cross.j2] at H
                  by_cases c10 : x32_6 = true
                  · subst c10
                    have H1 : (some (([] : List Int), false)) = some (r1, r2) := by rw [if_pos rfl] at H; exact H
                    clear H
                    have H := H1
                    clear H1
                    simp only [Option.some.injEq, Prod.mk.injEq] at H
                    obtain ⟨rfl, rfl⟩ := H
                    go_wp2
                    go_ret2
                    exact ⟨_, by first | rfl | (simp [errW_none, errW_some] <;> rfl) | (simp [*, errW_none, errW_some] <;> rfl), by first | exact Kd.R_nil _ _ _ _ _ | exact Kd.N_nil _ _ _ _ _ | exact Kd.V_nil _ _ _ _ _ | exact Kd.Q_nil _ _ _ _ _ | exact Kd.S_nil _ _ _ _ _, by repeat (first | (with_reducible first | exact HB.out | apply below_alloc | apply pw_below_drewN | apply below_drew1) | exact HB.out)⟩
                  · replace c10 := Bool.eq_false_iff.mpr c10
                    subst c10
                    have H1 : (if (x6_2.length : Int) = 0 then (if x6_2.length < 17592186044416 then (gunnyref30_Cross.l0 kj6 a0 a1 (x6_2 ++ [IntKind.u64.wrap ((IntKind.u64.wrap (a0 + (IntKind.u64.wrap (x7_2)))) - (Int.tmod (IntKind.u64.wrap (a0 + (IntKind.u64.wrap (x7_2)))) 4096))]) (wrap64 (x7_2 + 1))) else (none)) else (if 0 ≤ (wrap64 ((x6_2.length : Int) - 1)) then (if (wrap64 ((x6_2.length : Int) - 1)) < (x6_2.length : Int) then (if (rd x6_2 (wrap64 ((x6_2.length : Int) - 1))) = (IntKind.u64.wrap ((IntKind.u64.wrap (a0 + (IntKind.u64.wrap (x7_2)))) - (Int.tmod (IntKind.u64.wrap (a0 + (IntKind.u64.wrap (x7_2)))) 4096))) then (gunnyref30_Cross.l0 kj6 a0 a1 x6_2 (wrap64 (x7_2 + 1))) else (if x6_2.length < 17592186044416 then (gunnyref30_Cross.l0 kj6 a0 a1 (x6_2 ++ [IntKind.u64.wrap ((IntKind.u64.wrap (a0 + (IntKind.u64.wrap (x7_2)))) - (Int.tmod (IntKind.u64.wrap (a0 + (IntKind.u64.wrap (x7_2)))) 4096))]) (wrap64 (x7_2 + 1))) else (none))) else (none)) else (none))) = some (r1, r2) := by rw [if_neg (show ¬ (false = true) by decide)] at H; exact H
                    clear H
                    have H := H1
                    clear H1
                    by_cases c11 : (x6_2.length : Int) = 0
                    · rw [if_pos c11] at H
                      have c11b0 : ((x6_2.length : Int) == 0) = true := beq_iff_eq.mpr c11
                      have c11b1 : ((x6_2.length : Int) != 0) = false := bne_eq_false_iff_eq.mpr c11
                      clear c11
                      by_cases c12 : x6_2.length < 17592186044416
                      · rw [if_pos c12] at H
                        have LMc12 := Aside0.mk c12
                        clear c12
                        obtain ⟨y168, hy168⟩ : ∃ y_ : List Int, y_ = (x6_2 ++ [IntKind.u64.wrap ((IntKind.u64.wrap (a0 + (IntKind.u64.wrap (x7_2)))) - (Int.tmod (IntKind.u64.wrap (a0 + (IntKind.u64.wrap (x7_2)))) 4096))]) := ⟨_, rfl⟩
                        replace H : (gunnyref30_Cross.l0 kj6 a0 a1 y168 (wrap64 (x7_2 + 1))) = some (r1, r2) := by first | (rw [hy168]; with_reducible exact H) | (have H2_ := (Option.bind_some _ _).symm.trans H; rw [hy168]; with_reducible exact H2_) | (have H2_ := (Option.bind_some _ _).symm.trans H; with_reducible exact H2_) | with_reducible exact H | (rw [hy168]; exact H) | exact H
                        have Ny168 := Aside0.mk hy168
                        clear hy168
                        have H' := Aside0.mk H
                        clear H
                        obtain ⟨Ao13, co13, eo13⟩ := Kd.R_slice HO_6.out
                        subst eo13
                        go_wp2_with (first | ((with_reducible refine gate_builtin (b := .append) (xs := #[.tmp 50, .tmp 52]) rfl ?_); (try (refine gate_guard (by rfl) ?_; dsimp only)); at_builtin; refine Kd.R_append (Kd.int .u64) (w0 := w) w.heap.size rfl (.tmp 50) (.tmp 52) 36 25 (.int .u64 0) 8 rfl Try.underlying36 info25 rfl (by decide) (by omega) (.slice Ao13 x6_2.length co13) x6_2 (IntKind.u64.wrap ((IntKind.u64.wrap (a0 + (IntKind.u64.wrap (x7_2)))) - (Int.tmod (IntKind.u64.wrap (a0 + (IntKind.u64.wrap (x7_2)))) 4096))) [.int .u64 (IntKind.u64.wrap ((IntKind.u64.wrap (a0 + (IntKind.u64.wrap (x7_2)))) - (Int.tmod (IntKind.u64.wrap (a0 + (IntKind.u64.wrap (x7_2)))) 4096)))] (fun _ => True) (fun _ => False) rfl rfl ?aP (fun _ hk => hk.elim) ?aF ?aO ?aB ?aS ?aL ?_; (case aP => exact rfl); (case aB => exact (by repeat (first | (with_reducible first | exact HB.out | apply below_alloc | apply pw_below_drewN | apply below_drew1) | exact HB.out))); (case aF => exact (fun _ _ => trivial)); (case aO => exact (by (with_reducible repeat (first | apply Kd.R_alloc | apply Kd.R_drewN | apply Kd.R_drew)); exact HO_6.out)); (case aS => exact (below_size (by repeat (first | (with_reducible first | exact HB.out | apply below_alloc | apply pw_below_drewN | apply below_drew1) | exact HB.out)))); (case aL => have := LMc12.out; omega); intro v169 w14 ho hb hg hat; rw [← Ny168.out] at ho; have n0_ := Aside0.mk (hb); have n1_ := Aside0.mk (ho); clear HB; clear HO_6; have HB := n0_; have HO170 := n1_; clear n0_ n1_; clear ho hb hg hat))
                        go_roundg kj6
                        case measure => have := HJ2.out; have := HK2.out; have := HJ6.out; omega
                        case rel => exact ⟨(y168), (wrap64 (x7_2 + 1)), (by first | rfl | (simp; done) | (simp [*]; done)), H', ⟨by have := HJ2.out; have := HK2.out; have := HJ6.out; omega⟩, ⟨by (with_reducible repeat (first | apply Kd.R_alloc | apply Kd.R_drewN | apply Kd.R_drew)); exact HO170.out⟩, ⟨by repeat (first | (with_reducible first | exact HB.out | apply below_alloc | apply pw_below_drewN | apply below_drew1) | exact HB.out)⟩⟩
                      · rw [if_neg c12] at H
                        exact absurd H (by simp)
                    · rw [if_neg c11] at H
                      have c11b0 : ((x6_2.length : Int) == 0) = false := beq_eq_false_iff_ne.mpr c11
                      have c11b1 : ((x6_2.length : Int) != 0) = true := bne_iff_ne.mpr c11
                      have c11b2 : ¬ (x6_2 = []) := fun h_ => c11 (by rw [h_]; rfl)
                      obtain ⟨ji15, hji15⟩ : ∃ j_ : Int, (wrap64 ((x6_2.length : Int) - 1)) = j_ := ⟨_, rfl⟩
                      replace H : (if 0 ≤ (ji15) then (if (ji15) < (x6_2.length : Int) then (if (rd x6_2 (ji15)) = (IntKind.u64.wrap ((IntKind.u64.wrap (a0 + (IntKind.u64.wrap (x7_2)))) - (Int.tmod (IntKind.u64.wrap (a0 + (IntKind.u64.wrap (x7_2)))) 4096))) then (gunnyref30_Cross.l0 kj6 a0 a1 x6_2 (wrap64 (x7_2 + 1))) else (if x6_2.length < 17592186044416 then (gunnyref30_Cross.l0 kj6 a0 a1 (x6_2 ++ [IntKind.u64.wrap ((IntKind.u64.wrap (a0 + (IntKind.u64.wrap (x7_2)))) - (Int.tmod (IntKind.u64.wrap (a0 + (IntKind.u64.wrap (x7_2)))) 4096))]) (wrap64 (x7_2 + 1))) else (none))) else (none)) else (none)) = some (r1, r2) := by first | (rw [hji15] at H; exact H) | (simp only [hji15] at H ⊢; exact H)
                      have hji15w : (IntKind.i64.wrap ((x6_2.length : Int) - 1)) = ji15 := (i64_w _).trans hji15
                      by_cases c16 : 0 ≤ (ji15)
                      · rw [if_pos c16] at H
                        have c16b0 : decide (0 ≤ (ji15)) = true := decide_eq_true c16
                        clear c16
                        by_cases c17 : (ji15) < (x6_2.length : Int)
                        · rw [if_pos c17] at H
                          have c17b0 : decide ((ji15) < (x6_2.length : Int)) = true := decide_eq_true c17
                          clear c17
                          by_cases c18 : (rd x6_2 (ji15)) = (IntKind.u64.wrap ((IntKind.u64.wrap (a0 + (IntKind.u64.wrap (x7_2)))) - (Int.tmod (IntKind.u64.wrap (a0 + (IntKind.u64.wrap (x7_2)))) 4096)))
                          · rw [if_pos c18] at H
                            have c18b0 : ((rd x6_2 (ji15)) == (IntKind.u64.wrap ((IntKind.u64.wrap (a0 + (IntKind.u64.wrap (x7_2)))) - (Int.tmod (IntKind.u64.wrap (a0 + (IntKind.u64.wrap (x7_2)))) 4096)))) = true := beq_iff_eq.mpr c18
                            have c18b1 : ((rd x6_2 (ji15)) != (IntKind.u64.wrap ((IntKind.u64.wrap (a0 + (IntKind.u64.wrap (x7_2)))) - (Int.tmod (IntKind.u64.wrap (a0 + (IntKind.u64.wrap (x7_2)))) 4096)))) = false := bne_eq_false_iff_eq.mpr c18
                            clear c18
                            have H' := Aside0.mk H
                            clear H
                            obtain ⟨Ao19, co19, eo19⟩ := Kd.R_slice HO_6.out
                            subst eo19
                            have p171 : 0 ≤ ((ji15) : Int) := of_decide_eq_true (by first | (with_reducible assumption) | assumption)
                            have q171 : (ji15) < (x6_2.length : Int) := of_decide_eq_true (by first | (with_reducible assumption) | assumption)
                            obtain ⟨ad171, e171, hx171_0⟩ := Kd.at_int (Kd.R_reads' HO_6.out).2.2 (ji15) p171 q171
                            cases e171
                            replace p171 := eq_true p171
                            replace q171 := eq_true q171
                            go_wp2
                            go_roundg kj6
                            case measure => have := HJ2.out; have := HK2.out; have := HJ6.out; omega
                            case rel => exact ⟨(x6_2), (wrap64 (x7_2 + 1)), (by first | rfl | (simp; done) | (simp [*]; done)), H', ⟨by have := HJ2.out; have := HK2.out; have := HJ6.out; omega⟩, ⟨by (with_reducible repeat (first | apply Kd.R_alloc | apply Kd.R_drewN | apply Kd.R_drew)); exact HO_6.out⟩, ⟨by repeat (first | (with_reducible first | exact HB.out | apply below_alloc | apply pw_below_drewN | apply below_drew1) | exact HB.out)⟩⟩
                          · rw [if_neg c18] at H
                            have c18b0 : ((rd x6_2 (ji15)) == (IntKind.u64.wrap ((IntKind.u64.wrap (a0 + (IntKind.u64.wrap (x7_2)))) - (Int.tmod (IntKind.u64.wrap (a0 + (IntKind.u64.wrap (x7_2)))) 4096)))) = false := beq_eq_false_iff_ne.mpr c18
                            have c18b1 : ((rd x6_2 (ji15)) != (IntKind.u64.wrap ((IntKind.u64.wrap (a0 + (IntKind.u64.wrap (x7_2)))) - (Int.tmod (IntKind.u64.wrap (a0 + (IntKind.u64.wrap (x7_2)))) 4096)))) = true := bne_iff_ne.mpr c18
                            by_cases c20 : x6_2.length < 17592186044416
                            · rw [if_pos c20] at H
                              have LMc20 := Aside0.mk c20
                              clear c20
                              obtain ⟨y172, hy172⟩ : ∃ y_ : List Int, y_ = (x6_2 ++ [IntKind.u64.wrap ((IntKind.u64.wrap (a0 + (IntKind.u64.wrap (x7_2)))) - (Int.tmod (IntKind.u64.wrap (a0 + (IntKind.u64.wrap (x7_2)))) 4096))]) := ⟨_, rfl⟩
                              replace H : (gunnyref30_Cross.l0 kj6 a0 a1 y172 (wrap64 (x7_2 + 1))) = some (r1, r2) := by first | (rw [hy172]; with_reducible exact H) | (have H2_ := (Option.bind_some _ _).symm.trans H; rw [hy172]; with_reducible exact H2_) | (have H2_ := (Option.bind_some _ _).symm.trans H; with_reducible exact H2_) | with_reducible exact H | (rw [hy172]; exact H) | exact H
                              have Ny172 := Aside0.mk hy172
                              clear hy172
                              have H' := Aside0.mk H
                              clear H
                              obtain ⟨Ao21, co21, eo21⟩ := Kd.R_slice HO_6.out
                              subst eo21
                              have p171 : 0 ≤ ((ji15) : Int) := of_decide_eq_true (by first | (with_reducible assumption) | assumption)
                              have q171 : (ji15) < (x6_2.length : Int) := of_decide_eq_true (by first | (with_reducible assumption) | assumption)
                              obtain ⟨ad171, e171, hx171_0⟩ := Kd.at_int (Kd.R_reads' HO_6.out).2.2 (ji15) p171 q171
                              cases e171
                              replace p171 := eq_true p171
                              replace q171 := eq_true q171
                              go_wp2_with (first | ((with_reducible refine gate_builtin (b := .append) (xs := #[.tmp 50, .tmp 52]) rfl ?_); (try (refine gate_guard (by rfl) ?_; dsimp only)); at_builtin; refine Kd.R_append (Kd.int .u64) (w0 := w) w.heap.size rfl (.tmp 50) (.tmp 52) 36 25 (.int .u64 0) 8 rfl Try.underlying36 info25 rfl (by decide) (by omega) (.slice (some ad171) x6_2.length co21) x6_2 (IntKind.u64.wrap ((IntKind.u64.wrap (a0 + (IntKind.u64.wrap (x7_2)))) - (Int.tmod (IntKind.u64.wrap (a0 + (IntKind.u64.wrap (x7_2)))) 4096))) [.int .u64 (IntKind.u64.wrap ((IntKind.u64.wrap (a0 + (IntKind.u64.wrap (x7_2)))) - (Int.tmod (IntKind.u64.wrap (a0 + (IntKind.u64.wrap (x7_2)))) 4096)))] (fun _ => True) (fun _ => False) rfl rfl ?aP (fun _ hk => hk.elim) ?aF ?aO ?aB ?aS ?aL ?_; (case aP => exact rfl); (case aB => exact (by repeat (first | (with_reducible first | exact HB.out | apply below_alloc | apply pw_below_drewN | apply below_drew1) | exact HB.out))); (case aF => exact (fun _ _ => trivial)); (case aO => exact (by (with_reducible repeat (first | apply Kd.R_alloc | apply Kd.R_drewN | apply Kd.R_drew)); exact HO_6.out)); (case aS => exact (below_size (by repeat (first | (with_reducible first | exact HB.out | apply below_alloc | apply pw_below_drewN | apply below_drew1) | exact HB.out)))); (case aL => have := LMc20.out; omega); intro v173 w22 ho hb hg hat; rw [← Ny172.out] at ho; have n0_ := Aside0.mk (hb); have n1_ := Aside0.mk (ho); clear HB; clear HO_6; have HB := n0_; have HO174 := n1_; clear n0_ n1_; clear ho hb hg hat))
                              go_roundg kj6
                              case measure => have := HJ2.out; have := HK2.out; have := HJ6.out; omega
                              case rel => exact ⟨(y172), (wrap64 (x7_2 + 1)), (by first | rfl | (simp; done) | (simp [*]; done)), H', ⟨by have := HJ2.out; have := HK2.out; have := HJ6.out; omega⟩, ⟨by (with_reducible repeat (first | apply Kd.R_alloc | apply Kd.R_drewN | apply Kd.R_drew)); exact HO174.out⟩, ⟨by repeat (first | (with_reducible first | exact HB.out | apply below_alloc | apply pw_below_drewN | apply below_drew1) | exact HB.out)⟩⟩
                            · rw [if_neg c20] at H
                              exact absurd H (by simp)
                        · rw [if_neg c17] at H
                          exact absurd H (by simp)
                      · rw [if_neg c16] at H
                        exact absurd H (by simp)
            · rw [if_neg c6] at H
              have c6b0 : decide (x7_2 < a1) = false := decide_eq_false c6
              clear c6
              simp only [Option.some.injEq, Prod.mk.injEq] at H
              obtain ⟨rfl, rfl⟩ := H
              go_wp2
              go_ret2
              exact ⟨_, by first | rfl | (simp [errW_none, errW_some] <;> rfl) | (simp [*, errW_none, errW_some] <;> rfl), by (with_reducible repeat (first | apply Kd.R_alloc | apply Kd.R_drewN | apply Kd.R_drew)); exact HO_6.out, by repeat (first | (with_reducible first | exact HB.out | apply below_alloc | apply pw_below_drewN | apply below_drew1) | exact HB.out)⟩

end Go.Proofs.Ytpdpkjdkafmmhaa.R
