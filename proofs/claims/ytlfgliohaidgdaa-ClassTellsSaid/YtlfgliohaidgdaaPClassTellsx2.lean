-- PRINTED BY print.sh 35421559b90ae4d0a3588c463048766b98c2df88dd9212a6774a882060cdf62d: not written by this session
import Derived.Test.YtlfgliohaidgdaaPClassTellsx0
import Derived.Test.YtlfgliohaidgdaaPClassTellsx1
namespace Go.Proofs.Ytlfgliohaidgdaa.PClassTells
open Go.RowKit Go.Proofs.YtlfgliohaidgdaaW.PrintWords Go.Proofs.YtlfgliohaidgdaaW.PrintLast Go.Proofs.YtlfgliohaidgdaaW.PrintMore
attribute [local go_sem] max2_int min2_int max_two min_two max_three min_three max_four min_four   -- for this text's walks alone
set_option linter.unusedVariables false
set_option linter.unusedSimpArgs false

/-! ### gunnylaw15_ClassTells: function 3 -/
mutual
def gunnylaw15_ClassTells.j0 : Nat → Int → Int → Bool → Option (Bool)
  | 0, _, _, _ => none
  | k + 1, x0, x1, x12 => if x12 = true then ((class_Size.f x0).bind fun t116 => (if t116 = 0 then ((class_Frames.f k x0).bind fun t117 => (if t117 = 0 then ((class_Objects.f k x0).bind fun t118 => (if t118 = 0 then ((class_Left.f x0 x1).bind fun t119 => (if t119 = 0 then ((gunnylaw15_lives.f k).bind fun t120 => (some t120)) else (some false))) else (some false))) else (some false))) else (some false))) else (if x1 ≥ 1 then (gunnylaw15_ClassTells.j1 k x0 x1 0 (decide (x1 ≤ 4))) else (gunnylaw15_ClassTells.j1 k x0 x1 0 false))
def gunnylaw15_ClassTells.j1 : Nat → Int → Int → Int → Bool → Option (Bool)
  | 0, _, _, _, _ => none
  | k + 1, x0, x1, x5, x40 => if x40 = true then ((gunnyref15_Left.f k x0 x1).bind fun t121 => (gunnylaw15_ClassTells.j2 k x0 x1 t121)) else (gunnylaw15_ClassTells.j2 k x0 x1 x5)
def gunnylaw15_ClassTells.j2 : Nat → Int → Int → Int → Option (Bool)
  | 0, _, _, _ => none
  | k + 1, x0, x1, x5 => (gunnyref15_Frames.f k x0).bind fun t122 => ((class_Size.f x0).bind fun t123 => (if t123 = (wrap64 (64 * (wrap64 (x0 + 1)))) then ((class_Frames.f k x0).bind fun t124 => (if t124 = t122 then ((class_Objects.f k x0).bind fun t125 => ((gunnyref15_Objects.f k x0 t122).bind fun t126 => (if t125 = t126 then ((class_Left.f x0 x1).bind fun t127 => (if t127 = x5 then ((gunnylaw15_lives.f k).bind fun t128 => (some t128)) else (some false))) else (some false)))) else (some false))) else (some false)))
end
def gunnylaw15_ClassTells.f (k : Nat) (a0 : Int) (a1 : Int) : Option (Bool) := if a0 < 0 then (gunnylaw15_ClassTells.j0 k a0 a1 true) else (gunnylaw15_ClassTells.j0 k a0 a1 (decide (a0 > 63)))
theorem gunnylaw15_ClassTells.mono_l : ∀ k, (∀ y0 y1 y2, LeO (gunnylaw15_ClassTells.j0 k y0 y1 y2) (gunnylaw15_ClassTells.j0 (k + 1) y0 y1 y2)) ∧ (∀ y0 y1 y2 y3, LeO (gunnylaw15_ClassTells.j1 k y0 y1 y2 y3) (gunnylaw15_ClassTells.j1 (k + 1) y0 y1 y2 y3)) ∧ (∀ y0 y1 y2, LeO (gunnylaw15_ClassTells.j2 k y0 y1 y2) (gunnylaw15_ClassTells.j2 (k + 1) y0 y1 y2))
  | 0 => ⟨fun _ _ _ r h => by simp [gunnylaw15_ClassTells.j0] at h, fun _ _ _ _ r h => by simp [gunnylaw15_ClassTells.j1] at h, fun _ _ _ r h => by simp [gunnylaw15_ClassTells.j2] at h⟩
  | k + 1 => by
    obtain ⟨ih0, ih1, ih2⟩ := gunnylaw15_ClassTells.mono_l k
    refine ⟨?_, ?_, ?_⟩
    · intro y0 y1 y2
      unfold gunnylaw15_ClassTells.j0
      repeat' first
      | (with_reducible exact ih0 _ _ _)
      | (with_reducible exact ih1 _ _ _ _)
      | (with_reducible exact ih2 _ _ _)
      | (with_reducible exact class_Frames.mono _ _)
      | (with_reducible exact class_Objects.mono _ _)
      | (with_reducible exact gunnylaw15_lives.mono _)
      | (with_reducible exact gunnyref15_Frames.mono _ _)
      | (with_reducible exact gunnyref15_Left.mono _ _ _)
      | (with_reducible exact gunnyref15_Objects.mono _ _ _)
      | (with_reducible exact LeO.refl _)
      | (with_reducible exact LeO.none _)
      | (with_reducible refine LeO.ite ?_ ?_)
      | (with_reducible refine LeO.bind ?_ (fun _ => ?_))
      | exact ih0 _ _ _
      | exact ih1 _ _ _ _
      | exact ih2 _ _ _
      | exact class_Frames.mono _ _
      | exact class_Objects.mono _ _
      | exact gunnylaw15_lives.mono _
      | exact gunnyref15_Frames.mono _ _
      | exact gunnyref15_Left.mono _ _ _
      | exact gunnyref15_Objects.mono _ _ _
      | exact LeO.none _
      | refine LeO.ite ?_ ?_
      | refine LeO.bind ?_ (fun _ => ?_)
    · intro y0 y1 y2 y3
      unfold gunnylaw15_ClassTells.j1
      repeat' first
      | (with_reducible exact ih0 _ _ _)
      | (with_reducible exact ih1 _ _ _ _)
      | (with_reducible exact ih2 _ _ _)
      | (with_reducible exact class_Frames.mono _ _)
      | (with_reducible exact class_Objects.mono _ _)
      | (with_reducible exact gunnylaw15_lives.mono _)
      | (with_reducible exact gunnyref15_Frames.mono _ _)
      | (with_reducible exact gunnyref15_Left.mono _ _ _)
      | (with_reducible exact gunnyref15_Objects.mono _ _ _)
      | (with_reducible exact LeO.refl _)
      | (with_reducible exact LeO.none _)
      | (with_reducible refine LeO.ite ?_ ?_)
      | (with_reducible refine LeO.bind ?_ (fun _ => ?_))
      | exact ih0 _ _ _
      | exact ih1 _ _ _ _
      | exact ih2 _ _ _
      | exact class_Frames.mono _ _
      | exact class_Objects.mono _ _
      | exact gunnylaw15_lives.mono _
      | exact gunnyref15_Frames.mono _ _
      | exact gunnyref15_Left.mono _ _ _
      | exact gunnyref15_Objects.mono _ _ _
      | exact LeO.none _
      | refine LeO.ite ?_ ?_
      | refine LeO.bind ?_ (fun _ => ?_)
    · intro y0 y1 y2
      unfold gunnylaw15_ClassTells.j2
      repeat' first
      | (with_reducible exact ih0 _ _ _)
      | (with_reducible exact ih1 _ _ _ _)
      | (with_reducible exact ih2 _ _ _)
      | (with_reducible exact class_Frames.mono _ _)
      | (with_reducible exact class_Objects.mono _ _)
      | (with_reducible exact gunnylaw15_lives.mono _)
      | (with_reducible exact gunnyref15_Frames.mono _ _)
      | (with_reducible exact gunnyref15_Left.mono _ _ _)
      | (with_reducible exact gunnyref15_Objects.mono _ _ _)
      | (with_reducible exact LeO.refl _)
      | (with_reducible exact LeO.none _)
      | (with_reducible refine LeO.ite ?_ ?_)
      | (with_reducible refine LeO.bind ?_ (fun _ => ?_))
      | exact ih0 _ _ _
      | exact ih1 _ _ _ _
      | exact ih2 _ _ _
      | exact class_Frames.mono _ _
      | exact class_Objects.mono _ _
      | exact gunnylaw15_lives.mono _
      | exact gunnyref15_Frames.mono _ _
      | exact gunnyref15_Left.mono _ _ _
      | exact gunnyref15_Objects.mono _ _ _
      | exact LeO.none _
      | refine LeO.ite ?_ ?_
      | refine LeO.bind ?_ (fun _ => ?_)
theorem gunnylaw15_ClassTells.mono : ∀ a0 a1 k, LeO (gunnylaw15_ClassTells.f k a0 a1) (gunnylaw15_ClassTells.f (k + 1) a0 a1) := by
  intro a0 a1 k
  obtain ⟨ih0, ih1, ih2⟩ := gunnylaw15_ClassTells.mono_l k
  unfold gunnylaw15_ClassTells.f
  repeat' first
      | (with_reducible exact ih0 _ _ _)
      | (with_reducible exact ih1 _ _ _ _)
      | (with_reducible exact ih2 _ _ _)
      | (with_reducible exact class_Frames.mono _ _)
      | (with_reducible exact class_Objects.mono _ _)
      | (with_reducible exact gunnylaw15_lives.mono _)
      | (with_reducible exact gunnyref15_Frames.mono _ _)
      | (with_reducible exact gunnyref15_Left.mono _ _ _)
      | (with_reducible exact gunnyref15_Objects.mono _ _ _)
      | (with_reducible exact LeO.refl _)
      | (with_reducible exact LeO.none _)
      | (with_reducible refine LeO.ite ?_ ?_)
      | (with_reducible refine LeO.bind ?_ (fun _ => ?_))
      | exact ih0 _ _ _
      | exact ih1 _ _ _ _
      | exact ih2 _ _ _
      | exact class_Frames.mono _ _
      | exact class_Objects.mono _ _
      | exact gunnylaw15_lives.mono _
      | exact gunnyref15_Frames.mono _ _
      | exact gunnyref15_Left.mono _ _ _
      | exact gunnyref15_Objects.mono _ _ _
      | exact LeO.none _
      | refine LeO.ite ?_ ?_
      | refine LeO.bind ?_ (fun _ => ?_)
set_option maxHeartbeats 8000000 in
set_option maxRecDepth 100000 in
theorem gunnylaw15_ClassTells.calls (k : Nat) (a0 : Int) (a1 : Int) (r : Bool) (w : World) (h : gunnylaw15_ClassTells.f k a0 a1 = some r) :
    Calls Try.prog 3 #[.int .i64 a0, .int .i64 a1] w fun e w' => e = .returned (.bool r) ∧ Drawn0 w w' := by
  have H : (if a0 < 0 then (gunnylaw15_ClassTells.j0 k a0 a1 true) else (gunnylaw15_ClassTells.j0 k a0 a1 (decide (a0 > 63)))) = some r := h
  clear h
  have HC3 := Aside0.mk H
  clear H
  go_enter Try.func3, Try.ntmps3
  go_upto_region 1 with (fail)
  go_cut [12] (fun v12 wc => ∃ (kq : Nat) (x12_2 : Bool), v12 = .bool x12_2 ∧ Aside0 (gunnylaw15_ClassTells.j0 kq a0 a1 x12_2 = some r) ∧ Aside0 (kq ≤ k) ∧ Drawn0 w wc)
  case first =>
    have H := HC3.out
    clear HC3
    by_cases c4 : a0 < 0
    · rw [if_pos c4] at H
      have c4b0 : decide (a0 < 0) = true := decide_eq_true c4
      clear c4
      (first | rw [c4b0] | (simp only [i64_w, i32_w]; rw [c4b0]) | skip)
      have H' := Aside0.mk H
      clear H
      go_wp2
      go_meet
      case rel => exact ⟨_, (true), (by first | rfl | (simp; done) | (simp [*]; done)), H', ⟨by first | omega | exact Nat.le_refl _⟩, by repeat (first | exact Drawn0.refl _ | apply Drawn0.step)⟩
    · rw [if_neg c4] at H
      have c4b0 : decide (a0 < 0) = false := decide_eq_false c4
      clear c4
      (first | rw [c4b0] | (simp only [i64_w, i32_w]; rw [c4b0]) | skip)
      have H' := Aside0.mk H
      clear H
      go_wp2
      go_meet
      case rel => exact ⟨_, (decide (a0 > 63)), (by first | rfl | (simp; done) | (simp [*]; done)), H', ⟨by first | omega | exact Nat.le_refl _⟩, by repeat (first | exact Drawn0.refl _ | apply Drawn0.step)⟩
  case rest =>
    clear HC3
    try clear p2
    try clear c3
    try clear c4
    try clear c4b0
    obtain ⟨kq, x12_2, rfl, HA, HJ2, ⟨mc2, rfl⟩⟩ := hcut
    cases kq with
    | zero => exact absurd HA.out (by simp [gunnylaw15_ClassTells.j0])
    | succ kj2 =>
      have H := HA.out
      clear HA
      simp only [gunnylaw15_ClassTells.j0] at H
      by_cases c5 : x12_2 = true
      · subst c5
        have H1 : ((class_Size.f a0).bind fun t116 => (if t116 = 0 then ((class_Frames.f kj2 a0).bind fun t117 => (if t117 = 0 then ((class_Objects.f kj2 a0).bind fun t118 => (if t118 = 0 then ((class_Left.f a0 a1).bind fun t119 => (if t119 = 0 then ((gunnylaw15_lives.f kj2).bind fun t120 => (some t120)) else (some false))) else (some false))) else (some false))) else (some false))) = some r := by rw [if_pos rfl] at H; exact H
        clear H
        have H := H1
        clear H1
        replace H := Option.bind_eq_some_iff.mp H
        obtain ⟨t116, A60, H⟩ := H
        replace H : (if t116 = 0 then ((class_Frames.f kj2 a0).bind fun t117 => (if t117 = 0 then ((class_Objects.f kj2 a0).bind fun t118 => (if t118 = 0 then ((class_Left.f a0 a1).bind fun t119 => (if t119 = 0 then ((gunnylaw15_lives.f kj2).bind fun t120 => (some t120)) else (some false))) else (some false))) else (some false))) else (some false)) = some r := H
        have A6 := Aside0.mk A60
        clear A60
        by_cases c7 : t116 = 0
        · rw [if_pos c7] at H
          have c7b0 : (t116 == 0) = true := beq_iff_eq.mpr c7
          have c7b1 : (t116 != 0) = false := bne_eq_false_iff_eq.mpr c7
          clear c7
          replace H := Option.bind_eq_some_iff.mp H
          obtain ⟨t117, A80, H⟩ := H
          replace H : (if t117 = 0 then ((class_Objects.f kj2 a0).bind fun t118 => (if t118 = 0 then ((class_Left.f a0 a1).bind fun t119 => (if t119 = 0 then ((gunnylaw15_lives.f kj2).bind fun t120 => (some t120)) else (some false))) else (some false))) else (some false)) = some r := H
          have A8 := Aside0.mk A80
          clear A80
          by_cases c9 : t117 = 0
          · rw [if_pos c9] at H
            have c9b0 : (t117 == 0) = true := beq_iff_eq.mpr c9
            have c9b1 : (t117 != 0) = false := bne_eq_false_iff_eq.mpr c9
            clear c9
            replace H := Option.bind_eq_some_iff.mp H
            obtain ⟨t118, A100, H⟩ := H
            replace H : (if t118 = 0 then ((class_Left.f a0 a1).bind fun t119 => (if t119 = 0 then ((gunnylaw15_lives.f kj2).bind fun t120 => (some t120)) else (some false))) else (some false)) = some r := H
            have A10 := Aside0.mk A100
            clear A100
            by_cases c11 : t118 = 0
            · rw [if_pos c11] at H
              have c11b0 : (t118 == 0) = true := beq_iff_eq.mpr c11
              have c11b1 : (t118 != 0) = false := bne_eq_false_iff_eq.mpr c11
              clear c11
              replace H := Option.bind_eq_some_iff.mp H
              obtain ⟨t119, A120, H⟩ := H
              replace H : (if t119 = 0 then ((gunnylaw15_lives.f kj2).bind fun t120 => (some t120)) else (some false)) = some r := H
              have A12 := Aside0.mk A120
              clear A120
              by_cases c13 : t119 = 0
              · rw [if_pos c13] at H
                have c13b0 : (t119 == 0) = true := beq_iff_eq.mpr c13
                have c13b1 : (t119 != 0) = false := bne_eq_false_iff_eq.mpr c13
                clear c13
                replace H := Option.bind_eq_some_iff.mp H
                obtain ⟨t120, A140, H⟩ := H
                replace H : (some t120) = some r := H
                have A14 := Aside0.mk A140
                clear A140
                obtain rfl := Option.some.inj H
                go_wp2_with (first | ((with_reducible refine gate_callee (f := 6) rfl ?_); refine goesL_ (some 14) rfl rfl Try.func6 (by kernel_rfl) rfl #[.int .i64 a0] rfl (by (try simp only [List.map_toArray, List.map_cons, List.map_nil]); first | done | rfl | (simp only [List.length_drop, List.length_take]; rfl)) ?_; (with_reducible refine (class_Size.calls a0 t116 _ A6.out).mono ?_); rintro e w' ⟨rfl, ⟨nd, rfl⟩⟩; refine ⟨_, rfl, ?_⟩) | (go_at_call 7; (with_reducible refine (class_Frames.calls kj2 a0 t117 _ A8.out).mono ?_); rintro e w' ⟨rfl, ⟨nd, rfl⟩⟩) | (go_at_call 8; (with_reducible refine (class_Objects.calls kj2 a0 t118 _ A10.out).mono ?_); rintro e w' ⟨rfl, ⟨nd, rfl⟩⟩) | (go_at_call 9; (with_reducible refine (class_Left.calls a0 a1 t119 _ A12.out).mono ?_); rintro e w' ⟨rfl, ⟨nd, rfl⟩⟩) | (go_at_call 10; (with_reducible refine (gunnylaw15_lives.calls kj2  t120 _ A14.out).mono ?_); rintro e w' ⟨rfl, ⟨nd, rfl⟩⟩))
                go_ret
                exact ⟨by first | rfl | (simp; done) | (simp [*]; done), by repeat (first | exact Drawn0.refl _ | apply Drawn0.step)⟩
              · rw [if_neg c13] at H
                have c13b0 : (t119 == 0) = false := beq_eq_false_iff_ne.mpr c13
                have c13b1 : (t119 != 0) = true := bne_iff_ne.mpr c13
                obtain rfl := Option.some.inj H
                go_wp2_with (first | ((with_reducible refine gate_callee (f := 6) rfl ?_); refine goesL_ (some 14) rfl rfl Try.func6 (by kernel_rfl) rfl #[.int .i64 a0] rfl (by (try simp only [List.map_toArray, List.map_cons, List.map_nil]); first | done | rfl | (simp only [List.length_drop, List.length_take]; rfl)) ?_; (with_reducible refine (class_Size.calls a0 t116 _ A6.out).mono ?_); rintro e w' ⟨rfl, ⟨nd, rfl⟩⟩; refine ⟨_, rfl, ?_⟩) | (go_at_call 7; (with_reducible refine (class_Frames.calls kj2 a0 t117 _ A8.out).mono ?_); rintro e w' ⟨rfl, ⟨nd, rfl⟩⟩) | (go_at_call 8; (with_reducible refine (class_Objects.calls kj2 a0 t118 _ A10.out).mono ?_); rintro e w' ⟨rfl, ⟨nd, rfl⟩⟩) | (go_at_call 9; (with_reducible refine (class_Left.calls a0 a1 t119 _ A12.out).mono ?_); rintro e w' ⟨rfl, ⟨nd, rfl⟩⟩))
                go_ret
                exact ⟨by first | rfl | (simp; done) | (simp [*]; done), by repeat (first | exact Drawn0.refl _ | apply Drawn0.step)⟩
            · rw [if_neg c11] at H
              have c11b0 : (t118 == 0) = false := beq_eq_false_iff_ne.mpr c11
              have c11b1 : (t118 != 0) = true := bne_iff_ne.mpr c11
              obtain rfl := Option.some.inj H
              go_wp2_with (first | ((with_reducible refine gate_callee (f := 6) rfl ?_); refine goesL_ (some 14) rfl rfl Try.func6 (by kernel_rfl) rfl #[.int .i64 a0] rfl (by (try simp only [List.map_toArray, List.map_cons, List.map_nil]); first | done | rfl | (simp only [List.length_drop, List.length_take]; rfl)) ?_; (with_reducible refine (class_Size.calls a0 t116 _ A6.out).mono ?_); rintro e w' ⟨rfl, ⟨nd, rfl⟩⟩; refine ⟨_, rfl, ?_⟩) | (go_at_call 7; (with_reducible refine (class_Frames.calls kj2 a0 t117 _ A8.out).mono ?_); rintro e w' ⟨rfl, ⟨nd, rfl⟩⟩) | (go_at_call 8; (with_reducible refine (class_Objects.calls kj2 a0 t118 _ A10.out).mono ?_); rintro e w' ⟨rfl, ⟨nd, rfl⟩⟩))
              go_ret
              exact ⟨by first | rfl | (simp; done) | (simp [*]; done), by repeat (first | exact Drawn0.refl _ | apply Drawn0.step)⟩
          · rw [if_neg c9] at H
            have c9b0 : (t117 == 0) = false := beq_eq_false_iff_ne.mpr c9
            have c9b1 : (t117 != 0) = true := bne_iff_ne.mpr c9
            obtain rfl := Option.some.inj H
            go_wp2_with (first | ((with_reducible refine gate_callee (f := 6) rfl ?_); refine goesL_ (some 14) rfl rfl Try.func6 (by kernel_rfl) rfl #[.int .i64 a0] rfl (by (try simp only [List.map_toArray, List.map_cons, List.map_nil]); first | done | rfl | (simp only [List.length_drop, List.length_take]; rfl)) ?_; (with_reducible refine (class_Size.calls a0 t116 _ A6.out).mono ?_); rintro e w' ⟨rfl, ⟨nd, rfl⟩⟩; refine ⟨_, rfl, ?_⟩) | (go_at_call 7; (with_reducible refine (class_Frames.calls kj2 a0 t117 _ A8.out).mono ?_); rintro e w' ⟨rfl, ⟨nd, rfl⟩⟩))
            go_ret
            exact ⟨by first | rfl | (simp; done) | (simp [*]; done), by repeat (first | exact Drawn0.refl _ | apply Drawn0.step)⟩
        · rw [if_neg c7] at H
          have c7b0 : (t116 == 0) = false := beq_eq_false_iff_ne.mpr c7
          have c7b1 : (t116 != 0) = true := bne_iff_ne.mpr c7
          obtain rfl := Option.some.inj H
          go_wp2_with (first | ((with_reducible refine gate_callee (f := 6) rfl ?_); refine goesL_ (some 14) rfl rfl Try.func6 (by kernel_rfl) rfl #[.int .i64 a0] rfl (by (try simp only [List.map_toArray, List.map_cons, List.map_nil]); first | done | rfl | (simp only [List.length_drop, List.length_take]; rfl)) ?_; (with_reducible refine (class_Size.calls a0 t116 _ A6.out).mono ?_); rintro e w' ⟨rfl, ⟨nd, rfl⟩⟩; refine ⟨_, rfl, ?_⟩))
          go_ret
          exact ⟨by first | rfl | (simp; done) | (simp [*]; done), by repeat (first | exact Drawn0.refl _ | apply Drawn0.step)⟩
      · replace c5 := Bool.eq_false_iff.mpr c5
        subst c5
        have H1 : (if a1 ≥ 1 then (gunnylaw15_ClassTells.j1 kj2 a0 a1 0 (decide (a1 ≤ 4))) else (gunnylaw15_ClassTells.j1 kj2 a0 a1 0 false)) = some r := by rw [if_neg (show ¬ (false = true) by decide)] at H; exact H
        clear H
        have H := H1
        clear H1
        have HC15 := Aside0.mk H
        clear H
        go_upto_region 4 with (fail)
        go_cut [40] (fun v40 wc => ∃ (kq : Nat) (x40_14 : Bool), v40 = .bool x40_14 ∧ Aside0 (gunnylaw15_ClassTells.j1 kq a0 a1 0 x40_14 = some r) ∧ Aside0 (kq ≤ kj2) ∧ Drawn0 w wc)
        case first =>
          have H := HC15.out
          clear HC15
          by_cases c16 : a1 ≥ 1
          · rw [if_pos c16] at H
            have c16b0 : decide (1 ≤ a1) = true := decide_eq_true c16
            clear c16
            (first | rw [c16b0] | (simp only [i64_w, i32_w]; rw [c16b0]) | skip)
            have H' := Aside0.mk H
            clear H
            go_wp2
            go_meet
            case rel => exact ⟨_, (decide (a1 ≤ 4)), (by first | rfl | (simp; done) | (simp [*]; done)), H', ⟨by have := HJ2.out; first | omega | exact Nat.le_refl _⟩, by repeat (first | exact Drawn0.refl _ | apply Drawn0.step)⟩
          · rw [if_neg c16] at H
            have c16b0 : decide (1 ≤ a1) = false := decide_eq_false c16
            clear c16
            (first | rw [c16b0] | (simp only [i64_w, i32_w]; rw [c16b0]) | skip)
            have H' := Aside0.mk H
            clear H
            go_wp2
            go_meet
            case rel => exact ⟨_, (false), (by first | rfl | (simp; done) | (simp [*]; done)), H', ⟨by have := HJ2.out; first | omega | exact Nat.le_refl _⟩, by repeat (first | exact Drawn0.refl _ | apply Drawn0.step)⟩
        case rest =>
          clear HC15
          try clear c1
          try clear c2
          try clear p2
          try clear c3
          try clear c4
          try clear c4b0
          try clear c5
          try clear c6
          try clear c7
          try clear c7b0
          try clear c7b1
          try clear c9
          try clear c9b0
          try clear c9b1
          try clear c11
          try clear c11b0
          try clear c11b1
          try clear c13
          try clear c13b0
          try clear c13b1
          try clear c16
          try clear c16b0
          try clear p2
          obtain ⟨kq, x40_14, rfl, HA, HJ14, ⟨mc14, rfl⟩⟩ := hcut
          cases kq with
          | zero => exact absurd HA.out (by simp [gunnylaw15_ClassTells.j1])
          | succ kj14 =>
            have H := HA.out
            clear HA
            simp only [gunnylaw15_ClassTells.j1] at H
            have HC17 := Aside0.mk H
            clear H
            go_upto_if 40 with (fail)
            go_cut [5] (fun v5 wc => ∃ (kq : Nat) (x5_16 : Int), v5 = .int .i64 x5_16 ∧ Aside0 (gunnylaw15_ClassTells.j2 kq a0 a1 x5_16 = some r) ∧ Aside0 (kq ≤ kj14) ∧ Drawn0 w wc)
            case first =>
              have H := HC17.out
              clear HC17
              by_cases c18 : x40_14 = true
              · subst c18
                have H1 : ((gunnyref15_Left.f kj14 a0 a1).bind fun t121 => (gunnylaw15_ClassTells.j2 kj14 a0 a1 t121)) = some r := by rw [if_pos rfl] at H; exact H
                clear H
                have H := H1
                clear H1
                replace H := Option.bind_eq_some_iff.mp H
                obtain ⟨t121, A190, H⟩ := H
                replace H : (gunnylaw15_ClassTells.j2 kj14 a0 a1 t121) = some r := H
                have A19 := Aside0.mk A190
                clear A190
                have H' := Aside0.mk H
                clear H
                go_wp2_with (first | ((with_reducible refine gate_callee (f := 11) rfl ?_); refine goesL_ (some 43) rfl rfl Try.func11 (by kernel_rfl) rfl #[.int .i64 a0, .int .i64 a1] rfl (by (try simp only [List.map_toArray, List.map_cons, List.map_nil]); first | done | rfl | (simp only [List.length_drop, List.length_take]; rfl)) ?_; (with_reducible refine (gunnyref15_Left.calls kj14 a0 a1 t121 _ A19.out).mono ?_); rintro e w' ⟨rfl, ⟨nd, rfl⟩⟩; refine ⟨_, rfl, ?_⟩))
                go_meet
                case rel => exact ⟨_, (t121), (by first | rfl | (simp; done) | (simp [*]; done)), H', ⟨by have := HJ2.out; have := HJ14.out; first | omega | exact Nat.le_refl _⟩, by repeat (first | exact Drawn0.refl _ | apply Drawn0.step)⟩
              · replace c18 := Bool.eq_false_iff.mpr c18
                subst c18
                have H1 : (gunnylaw15_ClassTells.j2 kj14 a0 a1 0) = some r := by rw [if_neg (show ¬ (false = true) by decide)] at H; exact H
                clear H
                have H := H1
                clear H1
                have H' := Aside0.mk H
                clear H
                go_wp2
                go_meet
                case rel => exact ⟨_, (0), (by first | rfl | (simp; done) | (simp [*]; done)), H', ⟨by have := HJ2.out; have := HJ14.out; first | omega | exact Nat.le_refl _⟩, by repeat (first | exact Drawn0.refl _ | apply Drawn0.step)⟩
            case rest =>
              clear HC17
              try clear c1
              try clear c2
              try clear p2
              try clear c3
              try clear c4
              try clear c4b0
              try clear c5
              try clear c6
              try clear c7
              try clear c7b0
              try clear c7b1
              try clear c9
              try clear c9b0
              try clear c9b1
              try clear c11
              try clear c11b0
              try clear c11b1
              try clear c13
              try clear c13b0
              try clear c13b1
              try clear c14
              try clear c16
              try clear c16b0
              try clear c18
              try clear p2
              obtain ⟨kq, x5_16, rfl, HA, HJ16, ⟨mc16, rfl⟩⟩ := hcut
              cases kq with
              | zero => exact absurd HA.out (by simp [gunnylaw15_ClassTells.j2])
              | succ kj16 =>
                have H := HA.out
                clear HA
                simp only [gunnylaw15_ClassTells.j2] at H
                replace H := Option.bind_eq_some_iff.mp H
                obtain ⟨t122, A200, H⟩ := H
                replace H : ((class_Size.f a0).bind fun t123 => (if t123 = (wrap64 (64 * (wrap64 (a0 + 1)))) then ((class_Frames.f kj16 a0).bind fun t124 => (if t124 = t122 then ((class_Objects.f kj16 a0).bind fun t125 => ((gunnyref15_Objects.f kj16 a0 t122).bind fun t126 => (if t125 = t126 then ((class_Left.f a0 a1).bind fun t127 => (if t127 = x5_16 then ((gunnylaw15_lives.f kj16).bind fun t128 => (some t128)) else (some false))) else (some false)))) else (some false))) else (some false))) = some r := H
                have A20 := Aside0.mk A200
                clear A200
                replace H := Option.bind_eq_some_iff.mp H
                obtain ⟨t123, A210, H⟩ := H
                replace H : (if t123 = (wrap64 (64 * (wrap64 (a0 + 1)))) then ((class_Frames.f kj16 a0).bind fun t124 => (if t124 = t122 then ((class_Objects.f kj16 a0).bind fun t125 => ((gunnyref15_Objects.f kj16 a0 t122).bind fun t126 => (if t125 = t126 then ((class_Left.f a0 a1).bind fun t127 => (if t127 = x5_16 then ((gunnylaw15_lives.f kj16).bind fun t128 => (some t128)) else (some false))) else (some false)))) else (some false))) else (some false)) = some r := H
                have A21 := Aside0.mk A210
                clear A210
                by_cases c22 : t123 = (wrap64 (64 * (wrap64 (a0 + 1))))
                · rw [if_pos c22] at H
                  have c22b0 : (t123 == (wrap64 (64 * (wrap64 (a0 + 1))))) = true := beq_iff_eq.mpr c22
                  have c22b1 : (t123 != (wrap64 (64 * (wrap64 (a0 + 1))))) = false := bne_eq_false_iff_eq.mpr c22
                  clear c22
                  replace H := Option.bind_eq_some_iff.mp H
                  obtain ⟨t124, A230, H⟩ := H
                  replace H : (if t124 = t122 then ((class_Objects.f kj16 a0).bind fun t125 => ((gunnyref15_Objects.f kj16 a0 t122).bind fun t126 => (if t125 = t126 then ((class_Left.f a0 a1).bind fun t127 => (if t127 = x5_16 then ((gunnylaw15_lives.f kj16).bind fun t128 => (some t128)) else (some false))) else (some false)))) else (some false)) = some r := H
                  have A23 := Aside0.mk A230
                  clear A230
                  by_cases c24 : t124 = t122
                  · rw [if_pos c24] at H
                    have c24b0 : (t124 == t122) = true := beq_iff_eq.mpr c24
                    have c24b1 : (t124 != t122) = false := bne_eq_false_iff_eq.mpr c24
                    clear c24
                    replace H := Option.bind_eq_some_iff.mp H
                    obtain ⟨t125, A250, H⟩ := H
                    replace H : ((gunnyref15_Objects.f kj16 a0 t122).bind fun t126 => (if t125 = t126 then ((class_Left.f a0 a1).bind fun t127 => (if t127 = x5_16 then ((gunnylaw15_lives.f kj16).bind fun t128 => (some t128)) else (some false))) else (some false))) = some r := H
                    have A25 := Aside0.mk A250
                    clear A250
                    replace H := Option.bind_eq_some_iff.mp H
                    obtain ⟨t126, A260, H⟩ := H
                    replace H : (if t125 = t126 then ((class_Left.f a0 a1).bind fun t127 => (if t127 = x5_16 then ((gunnylaw15_lives.f kj16).bind fun t128 => (some t128)) else (some false))) else (some false)) = some r := H
                    have A26 := Aside0.mk A260
                    clear A260
                    by_cases c27 : t125 = t126
                    · rw [if_pos c27] at H
                      have c27b0 : (t125 == t126) = true := beq_iff_eq.mpr c27
                      have c27b1 : (t125 != t126) = false := bne_eq_false_iff_eq.mpr c27
                      clear c27
                      replace H := Option.bind_eq_some_iff.mp H
                      obtain ⟨t127, A280, H⟩ := H
                      replace H : (if t127 = x5_16 then ((gunnylaw15_lives.f kj16).bind fun t128 => (some t128)) else (some false)) = some r := H
                      have A28 := Aside0.mk A280
                      clear A280
                      by_cases c29 : t127 = x5_16
                      · rw [if_pos c29] at H
                        have c29b0 : (t127 == x5_16) = true := beq_iff_eq.mpr c29
                        have c29b1 : (t127 != x5_16) = false := bne_eq_false_iff_eq.mpr c29
                        clear c29
                        replace H := Option.bind_eq_some_iff.mp H
                        obtain ⟨t128, A300, H⟩ := H
                        replace H : (some t128) = some r := H
                        have A30 := Aside0.mk A300
                        clear A300
                        obtain rfl := Option.some.inj H
                        go_wp2_with (first | ((with_reducible refine gate_callee (f := 12) rfl ?_); refine goesL_ (some 45) rfl rfl Try.func12 (by kernel_rfl) rfl #[.int .i64 a0] rfl (by (try simp only [List.map_toArray, List.map_cons, List.map_nil]); first | done | rfl | (simp only [List.length_drop, List.length_take]; rfl)) ?_; (with_reducible refine (gunnyref15_Frames.calls kj16 a0 t122 _ A20.out).mono ?_); rintro e w' ⟨rfl, ⟨nd, rfl⟩⟩; refine ⟨_, rfl, ?_⟩) | ((with_reducible refine gate_callee (f := 6) rfl ?_); refine goesL_ (some 47) rfl rfl Try.func6 (by kernel_rfl) rfl #[.int .i64 a0] rfl (by (try simp only [List.map_toArray, List.map_cons, List.map_nil]); first | done | rfl | (simp only [List.length_drop, List.length_take]; rfl)) ?_; (with_reducible refine (class_Size.calls a0 t123 _ A21.out).mono ?_); rintro e w' ⟨rfl, ⟨nd, rfl⟩⟩; refine ⟨_, rfl, ?_⟩) | (go_at_call 7; (with_reducible refine (class_Frames.calls kj16 a0 t124 _ A23.out).mono ?_); rintro e w' ⟨rfl, ⟨nd, rfl⟩⟩) | (go_at_call 8; (with_reducible refine (class_Objects.calls kj16 a0 t125 _ A25.out).mono ?_); rintro e w' ⟨rfl, ⟨nd, rfl⟩⟩) | (go_at_call 13; (with_reducible refine (gunnyref15_Objects.calls kj16 a0 t122 t126 _ A26.out).mono ?_); rintro e w' ⟨rfl, ⟨nd, rfl⟩⟩) | (go_at_call 9; (with_reducible refine (class_Left.calls a0 a1 t127 _ A28.out).mono ?_); rintro e w' ⟨rfl, ⟨nd, rfl⟩⟩) | (go_at_call 10; (with_reducible refine (gunnylaw15_lives.calls kj16  t128 _ A30.out).mono ?_); rintro e w' ⟨rfl, ⟨nd, rfl⟩⟩))
                        go_ret
                        exact ⟨by first | rfl | (simp; done) | (simp [*]; done), by repeat (first | exact Drawn0.refl _ | apply Drawn0.step)⟩
                      · rw [if_neg c29] at H
                        have c29b0 : (t127 == x5_16) = false := beq_eq_false_iff_ne.mpr c29
                        have c29b1 : (t127 != x5_16) = true := bne_iff_ne.mpr c29
                        obtain rfl := Option.some.inj H
                        go_wp2_with (first | ((with_reducible refine gate_callee (f := 12) rfl ?_); refine goesL_ (some 45) rfl rfl Try.func12 (by kernel_rfl) rfl #[.int .i64 a0] rfl (by (try simp only [List.map_toArray, List.map_cons, List.map_nil]); first | done | rfl | (simp only [List.length_drop, List.length_take]; rfl)) ?_; (with_reducible refine (gunnyref15_Frames.calls kj16 a0 t122 _ A20.out).mono ?_); rintro e w' ⟨rfl, ⟨nd, rfl⟩⟩; refine ⟨_, rfl, ?_⟩) | ((with_reducible refine gate_callee (f := 6) rfl ?_); refine goesL_ (some 47) rfl rfl Try.func6 (by kernel_rfl) rfl #[.int .i64 a0] rfl (by (try simp only [List.map_toArray, List.map_cons, List.map_nil]); first | done | rfl | (simp only [List.length_drop, List.length_take]; rfl)) ?_; (with_reducible refine (class_Size.calls a0 t123 _ A21.out).mono ?_); rintro e w' ⟨rfl, ⟨nd, rfl⟩⟩; refine ⟨_, rfl, ?_⟩) | (go_at_call 7; (with_reducible refine (class_Frames.calls kj16 a0 t124 _ A23.out).mono ?_); rintro e w' ⟨rfl, ⟨nd, rfl⟩⟩) | (go_at_call 8; (with_reducible refine (class_Objects.calls kj16 a0 t125 _ A25.out).mono ?_); rintro e w' ⟨rfl, ⟨nd, rfl⟩⟩) | (go_at_call 13; (with_reducible refine (gunnyref15_Objects.calls kj16 a0 t122 t126 _ A26.out).mono ?_); rintro e w' ⟨rfl, ⟨nd, rfl⟩⟩) | (go_at_call 9; (with_reducible refine (class_Left.calls a0 a1 t127 _ A28.out).mono ?_); rintro e w' ⟨rfl, ⟨nd, rfl⟩⟩))
                        go_ret
                        exact ⟨by first | rfl | (simp; done) | (simp [*]; done), by repeat (first | exact Drawn0.refl _ | apply Drawn0.step)⟩
                    · rw [if_neg c27] at H
                      have c27b0 : (t125 == t126) = false := beq_eq_false_iff_ne.mpr c27
                      have c27b1 : (t125 != t126) = true := bne_iff_ne.mpr c27
                      obtain rfl := Option.some.inj H
                      go_wp2_with (first | ((with_reducible refine gate_callee (f := 12) rfl ?_); refine goesL_ (some 45) rfl rfl Try.func12 (by kernel_rfl) rfl #[.int .i64 a0] rfl (by (try simp only [List.map_toArray, List.map_cons, List.map_nil]); first | done | rfl | (simp only [List.length_drop, List.length_take]; rfl)) ?_; (with_reducible refine (gunnyref15_Frames.calls kj16 a0 t122 _ A20.out).mono ?_); rintro e w' ⟨rfl, ⟨nd, rfl⟩⟩; refine ⟨_, rfl, ?_⟩) | ((with_reducible refine gate_callee (f := 6) rfl ?_); refine goesL_ (some 47) rfl rfl Try.func6 (by kernel_rfl) rfl #[.int .i64 a0] rfl (by (try simp only [List.map_toArray, List.map_cons, List.map_nil]); first | done | rfl | (simp only [List.length_drop, List.length_take]; rfl)) ?_; (with_reducible refine (class_Size.calls a0 t123 _ A21.out).mono ?_); rintro e w' ⟨rfl, ⟨nd, rfl⟩⟩; refine ⟨_, rfl, ?_⟩) | (go_at_call 7; (with_reducible refine (class_Frames.calls kj16 a0 t124 _ A23.out).mono ?_); rintro e w' ⟨rfl, ⟨nd, rfl⟩⟩) | (go_at_call 8; (with_reducible refine (class_Objects.calls kj16 a0 t125 _ A25.out).mono ?_); rintro e w' ⟨rfl, ⟨nd, rfl⟩⟩) | (go_at_call 13; (with_reducible refine (gunnyref15_Objects.calls kj16 a0 t122 t126 _ A26.out).mono ?_); rintro e w' ⟨rfl, ⟨nd, rfl⟩⟩))
                      go_ret
                      exact ⟨by first | rfl | (simp; done) | (simp [*]; done), by repeat (first | exact Drawn0.refl _ | apply Drawn0.step)⟩
                  · rw [if_neg c24] at H
                    have c24b0 : (t124 == t122) = false := beq_eq_false_iff_ne.mpr c24
                    have c24b1 : (t124 != t122) = true := bne_iff_ne.mpr c24
                    obtain rfl := Option.some.inj H
                    go_wp2_with (first | ((with_reducible refine gate_callee (f := 12) rfl ?_); refine goesL_ (some 45) rfl rfl Try.func12 (by kernel_rfl) rfl #[.int .i64 a0] rfl (by (try simp only [List.map_toArray, List.map_cons, List.map_nil]); first | done | rfl | (simp only [List.length_drop, List.length_take]; rfl)) ?_; (with_reducible refine (gunnyref15_Frames.calls kj16 a0 t122 _ A20.out).mono ?_); rintro e w' ⟨rfl, ⟨nd, rfl⟩⟩; refine ⟨_, rfl, ?_⟩) | ((with_reducible refine gate_callee (f := 6) rfl ?_); refine goesL_ (some 47) rfl rfl Try.func6 (by kernel_rfl) rfl #[.int .i64 a0] rfl (by (try simp only [List.map_toArray, List.map_cons, List.map_nil]); first | done | rfl | (simp only [List.length_drop, List.length_take]; rfl)) ?_; (with_reducible refine (class_Size.calls a0 t123 _ A21.out).mono ?_); rintro e w' ⟨rfl, ⟨nd, rfl⟩⟩; refine ⟨_, rfl, ?_⟩) | (go_at_call 7; (with_reducible refine (class_Frames.calls kj16 a0 t124 _ A23.out).mono ?_); rintro e w' ⟨rfl, ⟨nd, rfl⟩⟩))
                    go_ret
                    exact ⟨by first | rfl | (simp; done) | (simp [*]; done), by repeat (first | exact Drawn0.refl _ | apply Drawn0.step)⟩
                · rw [if_neg c22] at H
                  have c22b0 : (t123 == (wrap64 (64 * (wrap64 (a0 + 1))))) = false := beq_eq_false_iff_ne.mpr c22
                  have c22b1 : (t123 != (wrap64 (64 * (wrap64 (a0 + 1))))) = true := bne_iff_ne.mpr c22
                  obtain rfl := Option.some.inj H
                  go_wp2_with (first | ((with_reducible refine gate_callee (f := 12) rfl ?_); refine goesL_ (some 45) rfl rfl Try.func12 (by kernel_rfl) rfl #[.int .i64 a0] rfl (by (try simp only [List.map_toArray, List.map_cons, List.map_nil]); first | done | rfl | (simp only [List.length_drop, List.length_take]; rfl)) ?_; (with_reducible refine (gunnyref15_Frames.calls kj16 a0 t122 _ A20.out).mono ?_); rintro e w' ⟨rfl, ⟨nd, rfl⟩⟩; refine ⟨_, rfl, ?_⟩) | ((with_reducible refine gate_callee (f := 6) rfl ?_); refine goesL_ (some 47) rfl rfl Try.func6 (by kernel_rfl) rfl #[.int .i64 a0] rfl (by (try simp only [List.map_toArray, List.map_cons, List.map_nil]); first | done | rfl | (simp only [List.length_drop, List.length_take]; rfl)) ?_; (with_reducible refine (class_Size.calls a0 t123 _ A21.out).mono ?_); rintro e w' ⟨rfl, ⟨nd, rfl⟩⟩; refine ⟨_, rfl, ?_⟩))
                  go_ret
                  exact ⟨by first | rfl | (simp; done) | (simp [*]; done), by repeat (first | exact Drawn0.refl _ | apply Drawn0.step)⟩

/-- THE ONE PURE STATEMENT of gunnylaw15_ClassTells: yours. -/
def gunnylaw15_ClassTells.Pure : Prop := ∀ (a0 : Int) (a1 : Int), (Lit.int .i64 a0).wf = true → (Lit.int .i64 a1).wf = true → ∃ k, gunnylaw15_ClassTells.f k a0 a1 = some true
theorem gunnylaw15_ClassTells.walk (P : gunnylaw15_ClassTells.Pure) (a0 : Int) (a1 : Int) (w : World) (w0 : (Lit.int .i64 a0).wf = true) (w1 : (Lit.int .i64 a1).wf = true) :
    Calls Try.prog 3 #[.int .i64 a0, .int .i64 a1] w fun e w' => e = .returned (.bool true) ∧ Below w.heap.size w w' := by
  obtain ⟨k, h⟩ := P a0 a1 w0 w1
  refine (gunnylaw15_ClassTells.calls k a0 a1 true w h).mono ?_
  rintro e w' ⟨rfl, hd⟩
  exact ⟨rfl, hd.below⟩

end Go.Proofs.Ytlfgliohaidgdaa.PClassTells
