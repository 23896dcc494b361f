-- written for this claim by a program (a patched print)
import Derived.Test.YtpdpkjdkafmmhaaRx0
import Derived.Test.YtpdpkjdkafmmhaaRx1
import Derived.Test.YtpdpkjdkafmmhaaRx2
namespace Go.Proofs.Ytpdpkjdkafmmhaa.R
open Go.RowKit Go.Proofs.YtpdpkjdkafmmhaaW.PrintWords Go.Proofs.YtpdpkjdkafmmhaaW.PrintLast Go.Proofs.YtpdpkjdkafmmhaaW.PrintMore
attribute [local go_sem] max2_int min2_int max_two min_two max_three min_three max_four min_four   -- for this text's walks alone
set_option linter.unusedVariables false
set_option linter.unusedSimpArgs false

/-! ### gunnylaw30_VaParts: function 4 -/
mutual
def gunnylaw30_VaParts.j0 : Nat → Int → Int → Int → Int → Bool → Option (Bool)
  | 0, _, _, _, _, _ => none
  | k + 1, x0, x1, x2, x7, x13 => if x13 = true then ((gunnyref30_Up.f (IntKind.u64.wrap (4096 * (IntKind.u64.wrap (x2))))).bind fun t123 => (gunnylaw30_VaParts.j1 k x0 x1 x2 t123)) else (gunnylaw30_VaParts.j1 k x0 x1 x2 x7)
def gunnylaw30_VaParts.j1 : Nat → Int → Int → Int → Int → Option (Bool)
  | 0, _, _, _, _ => none
  | k + 1, x0, x1, x2, x7 => (va_Canon.f k x0).bind fun t124 => ((gunnyref30_Canon.f k x0).bind fun t125 => (if (t124 == t125) = true then ((va_Page.f k x0).bind fun t126 => ((gunnyref30_Page.f x0).bind fun t127 => (if t126 = t127 then ((va_Offset.f k x0).bind fun t128 => (if t128 = (wrap64 (Int.tmod x0 4096)) then ((va_Index.f k x0 x1).bind fun t129 => ((gunnyref30_Index.f k x0 x1).bind fun t130 => (if t129 = t130 then ((va_At.f k x2).bind fun t131 => (if t131 = x7 then ((gunnylaw30_lives.f k).bind fun t132 => (some t132)) else (some false))) else (some false)))) else (some false))) else (some false)))) else (some false)))
end
def gunnylaw30_VaParts.f (k : Nat) (a0 : Int) (a1 : Int) (a2 : Int) : Option (Bool) := if a2 ≥ 0 then (gunnylaw30_VaParts.j0 k a0 a1 a2 0 (decide (a2 < 68719476736))) else (gunnylaw30_VaParts.j0 k a0 a1 a2 0 false)
theorem gunnylaw30_VaParts.mono_l : ∀ k, (∀ y0 y1 y2 y3 y4, LeO (gunnylaw30_VaParts.j0 k y0 y1 y2 y3 y4) (gunnylaw30_VaParts.j0 (k + 1) y0 y1 y2 y3 y4)) ∧ (∀ y0 y1 y2 y3, LeO (gunnylaw30_VaParts.j1 k y0 y1 y2 y3) (gunnylaw30_VaParts.j1 (k + 1) y0 y1 y2 y3))
  | 0 => ⟨fun _ _ _ _ _ r h => by simp [gunnylaw30_VaParts.j0] at h, fun _ _ _ _ r h => by simp [gunnylaw30_VaParts.j1] at h⟩
  | k + 1 => by
    obtain ⟨ih0, ih1⟩ := gunnylaw30_VaParts.mono_l k
    refine ⟨?_, ?_⟩
    · intro y0 y1 y2 y3 y4
      unfold gunnylaw30_VaParts.j0
      repeat' first
      | (with_reducible exact ih0 _ _ _ _ _)
      | (with_reducible exact ih1 _ _ _ _)
      | (with_reducible exact gunnylaw30_lives.mono _)
      | (with_reducible exact gunnyref30_Canon.mono _ _)
      | (with_reducible exact gunnyref30_Index.mono _ _ _)
      | (with_reducible exact va_At.mono _ _)
      | (with_reducible exact va_Canon.mono _ _)
      | (with_reducible exact va_Index.mono _ _ _)
      | (with_reducible exact va_Offset.mono _ _)
      | (with_reducible exact va_Page.mono _ _)
      | (with_reducible exact LeO.refl _)
      | (with_reducible exact LeO.none _)
      | (with_reducible refine LeO.ite ?_ ?_)
      | (with_reducible refine LeO.bind ?_ (fun _ => ?_))
      | exact ih0 _ _ _ _ _
      | exact ih1 _ _ _ _
      | exact gunnylaw30_lives.mono _
      | exact gunnyref30_Canon.mono _ _
      | exact gunnyref30_Index.mono _ _ _
      | exact va_At.mono _ _
      | exact va_Canon.mono _ _
      | exact va_Index.mono _ _ _
      | exact va_Offset.mono _ _
      | exact va_Page.mono _ _
      | exact LeO.none _
      | refine LeO.ite ?_ ?_
      | refine LeO.bind ?_ (fun _ => ?_)
    · intro y0 y1 y2 y3
      unfold gunnylaw30_VaParts.j1
      repeat' first
      | (with_reducible exact ih0 _ _ _ _ _)
      | (with_reducible exact ih1 _ _ _ _)
      | (with_reducible exact gunnylaw30_lives.mono _)
      | (with_reducible exact gunnyref30_Canon.mono _ _)
      | (with_reducible exact gunnyref30_Index.mono _ _ _)
      | (with_reducible exact va_At.mono _ _)
      | (with_reducible exact va_Canon.mono _ _)
      | (with_reducible exact va_Index.mono _ _ _)
      | (with_reducible exact va_Offset.mono _ _)
      | (with_reducible exact va_Page.mono _ _)
      | (with_reducible exact LeO.refl _)
      | (with_reducible exact LeO.none _)
      | (with_reducible refine LeO.ite ?_ ?_)
      | (with_reducible refine LeO.bind ?_ (fun _ => ?_))
      | exact ih0 _ _ _ _ _
      | exact ih1 _ _ _ _
      | exact gunnylaw30_lives.mono _
      | exact gunnyref30_Canon.mono _ _
      | exact gunnyref30_Index.mono _ _ _
      | exact va_At.mono _ _
      | exact va_Canon.mono _ _
      | exact va_Index.mono _ _ _
      | exact va_Offset.mono _ _
      | exact va_Page.mono _ _
      | exact LeO.none _
      | refine LeO.ite ?_ ?_
      | refine LeO.bind ?_ (fun _ => ?_)
theorem gunnylaw30_VaParts.mono : ∀ a0 a1 a2 k, LeO (gunnylaw30_VaParts.f k a0 a1 a2) (gunnylaw30_VaParts.f (k + 1) a0 a1 a2) := by
  intro a0 a1 a2 k
  obtain ⟨ih0, ih1⟩ := gunnylaw30_VaParts.mono_l k
  unfold gunnylaw30_VaParts.f
  repeat' first
      | (with_reducible exact ih0 _ _ _ _ _)
      | (with_reducible exact ih1 _ _ _ _)
      | (with_reducible exact gunnylaw30_lives.mono _)
      | (with_reducible exact gunnyref30_Canon.mono _ _)
      | (with_reducible exact gunnyref30_Index.mono _ _ _)
      | (with_reducible exact va_At.mono _ _)
      | (with_reducible exact va_Canon.mono _ _)
      | (with_reducible exact va_Index.mono _ _ _)
      | (with_reducible exact va_Offset.mono _ _)
      | (with_reducible exact va_Page.mono _ _)
      | (with_reducible exact LeO.refl _)
      | (with_reducible exact LeO.none _)
      | (with_reducible refine LeO.ite ?_ ?_)
      | (with_reducible refine LeO.bind ?_ (fun _ => ?_))
      | exact ih0 _ _ _ _ _
      | exact ih1 _ _ _ _
      | exact gunnylaw30_lives.mono _
      | exact gunnyref30_Canon.mono _ _
      | exact gunnyref30_Index.mono _ _ _
      | exact va_At.mono _ _
      | exact va_Canon.mono _ _
      | exact va_Index.mono _ _ _
      | exact va_Offset.mono _ _
      | exact va_Page.mono _ _
      | exact LeO.none _
      | refine LeO.ite ?_ ?_
      | refine LeO.bind ?_ (fun _ => ?_)
set_option maxHeartbeats 8000000 in
set_option maxRecDepth 100000 in
theorem gunnylaw30_VaParts.calls (k : Nat) (a0 : Int) (a1 : Int) (a2 : Int) (r : Bool) (w : World) (h : gunnylaw30_VaParts.f k a0 a1 a2 = some r) :
    Calls Try.prog 4 #[.int .u64 a0, .int .i64 a1, .int .i64 a2] w fun e w' => e = .returned (.bool r) ∧ Below w.heap.size w w' := by
  have HB := Aside0.mk (Below.refl w.heap.size w)
  have H : (if a2 ≥ 0 then (gunnylaw30_VaParts.j0 k a0 a1 a2 0 (decide (a2 < 68719476736))) else (gunnylaw30_VaParts.j0 k a0 a1 a2 0 false)) = some r := h
  clear h
  have HC4 := Aside0.mk H
  clear H
  go_enter Try.func4, Try.ntmps4
  go_upto_region 2 with (fail)
  go_cut [13] (fun v13 wc => ∃ (kq : Nat) (x13_3 : Bool), v13 = .bool x13_3 ∧ Aside0 (gunnylaw30_VaParts.j0 kq a0 a1 a2 0 x13_3 = some r) ∧ Aside0 (kq ≤ k) ∧ Aside0 (Below w.heap.size w wc))
  case first =>
    have H := HC4.out
    clear HC4
    by_cases c5 : a2 ≥ 0
    · rw [if_pos c5] at H
      have c5b0 : decide (0 ≤ a2) = true := decide_eq_true c5
      clear c5
      (first | rw [c5b0] | (simp only [i64_w, i32_w]; rw [c5b0]) | skip)
      have H' := Aside0.mk H
      clear H
      go_wp2
      go_meet
      case rel => exact ⟨_, (decide (a2 < 68719476736)), (by first | rfl | (simp; done) | (simp [*]; done)), H', ⟨by first | omega | exact Nat.le_refl _⟩, ⟨by repeat (first | (with_reducible first | exact HB.out | apply below_alloc | apply pw_below_drewN | apply below_drew1) | exact HB.out)⟩⟩
    · rw [if_neg c5] at H
      have c5b0 : decide (0 ≤ a2) = false := decide_eq_false c5
      clear c5
      (first | rw [c5b0] | (simp only [i64_w, i32_w]; rw [c5b0]) | skip)
      have H' := Aside0.mk H
      clear H
      go_wp2
      go_meet
      case rel => exact ⟨_, (false), (by first | rfl | (simp; done) | (simp [*]; done)), H', ⟨by first | omega | exact Nat.le_refl _⟩, ⟨by repeat (first | (with_reducible first | exact HB.out | apply below_alloc | apply pw_below_drewN | apply below_drew1) | exact HB.out)⟩⟩
  case rest =>
    clear HC4
    try clear p2
    try clear c4
    try clear c5
    try clear c5b0
    obtain ⟨kq, x13_3, rfl, HA, HJ3, HB⟩ := hcut
    cases kq with
    | zero => exact absurd HA.out (by simp [gunnylaw30_VaParts.j0])
    | succ kj3 =>
      have H := HA.out
      clear HA
      simp only [gunnylaw30_VaParts.j0] at H
      have HC6 := Aside0.mk H
      clear H
      go_upto_if 13 with (fail)
      go_cut [7] (fun v7 wc => ∃ (kq : Nat) (x7_5 : Int), v7 = .int .u64 x7_5 ∧ Aside0 (gunnylaw30_VaParts.j1 kq a0 a1 a2 x7_5 = some r) ∧ Aside0 (kq ≤ kj3) ∧ Aside0 (Below w.heap.size w wc))
      case first =>
        have H := HC6.out
        clear HC6
        by_cases c7 : x13_3 = true
        · subst c7
          have H1 : ((gunnyref30_Up.f (IntKind.u64.wrap (4096 * (IntKind.u64.wrap (a2))))).bind fun t123 => (gunnylaw30_VaParts.j1 kj3 a0 a1 a2 t123)) = some r := by rw [if_pos rfl] at H; exact H
          clear H
          have H := H1
          clear H1
          replace H := Option.bind_eq_some_iff.mp H
          obtain ⟨t123, A80, H⟩ := H
          replace H : (gunnylaw30_VaParts.j1 kj3 a0 a1 a2 t123) = some r := H
          have A8 := Aside0.mk A80
          clear A80
          have H' := Aside0.mk H
          clear H
          go_wp2_with (first | ((with_reducible refine gate_callee (f := 10) rfl ?_); refine goesL_ (some 17) rfl rfl Try.func10 (by kernel_rfl) rfl #[.int .u64 (IntKind.u64.wrap (4096 * (IntKind.u64.wrap (a2))))] rfl (by (try simp only [List.map_toArray, List.map_cons, List.map_nil]); first | done | rfl | (simp only [List.length_drop, List.length_take]; rfl)) ?_; (with_reducible refine (gunnyref30_Up.calls (IntKind.u64.wrap (4096 * (IntKind.u64.wrap (a2)))) t123 _ A8.out).mono ?_); rintro e w' ⟨rfl, ⟨nd, rfl⟩⟩; refine ⟨_, rfl, ?_⟩))
          go_meet
          case rel => exact ⟨_, (t123), (by first | rfl | (simp; done) | (simp [*]; done)), H', ⟨by have := HJ3.out; first | omega | exact Nat.le_refl _⟩, ⟨by repeat (first | (with_reducible first | exact HB.out | apply below_alloc | apply pw_below_drewN | apply below_drew1) | exact HB.out)⟩⟩
        · replace c7 := Bool.eq_false_iff.mpr c7
          subst c7
          have H1 : (gunnylaw30_VaParts.j1 kj3 a0 a1 a2 0) = some r := by rw [if_neg (show ¬ (false = true) by decide)] at H; exact H
          clear H
          have H := H1
          clear H1
          have H' := Aside0.mk H
          clear H
          go_wp2
          go_meet
          case rel => exact ⟨_, (0), (by first | rfl | (simp; done) | (simp [*]; done)), H', ⟨by have := HJ3.out; first | omega | exact Nat.le_refl _⟩, ⟨by repeat (first | (with_reducible first | exact HB.out | apply below_alloc | apply pw_below_drewN | apply below_drew1) | exact HB.out)⟩⟩
      case rest =>
        clear HC6
        try clear c1
        try clear p2
        try clear c4
        try clear c5
        try clear c5b0
        try clear c7
        try clear p2
        obtain ⟨kq, x7_5, rfl, HA, HJ5, HB⟩ := hcut
        cases kq with
        | zero => exact absurd HA.out (by simp [gunnylaw30_VaParts.j1])
        | succ kj5 =>
          have H := HA.out
          clear HA
          simp only [gunnylaw30_VaParts.j1] at H
          replace H := Option.bind_eq_some_iff.mp H
          obtain ⟨t124, A90, H⟩ := H
          replace H : ((gunnyref30_Canon.f kj5 a0).bind fun t125 => (if (t124 == t125) = true then ((va_Page.f kj5 a0).bind fun t126 => ((gunnyref30_Page.f a0).bind fun t127 => (if t126 = t127 then ((va_Offset.f kj5 a0).bind fun t128 => (if t128 = (wrap64 (Int.tmod a0 4096)) then ((va_Index.f kj5 a0 a1).bind fun t129 => ((gunnyref30_Index.f kj5 a0 a1).bind fun t130 => (if t129 = t130 then ((va_At.f kj5 a2).bind fun t131 => (if t131 = x7_5 then ((gunnylaw30_lives.f kj5).bind fun t132 => (some t132)) else (some false))) else (some false)))) else (some false))) else (some false)))) else (some false))) = some r := H
          have A9 := Aside0.mk A90
          clear A90
          replace H := Option.bind_eq_some_iff.mp H
          obtain ⟨t125, A100, H⟩ := H
          replace H : (if (t124 == t125) = true then ((va_Page.f kj5 a0).bind fun t126 => ((gunnyref30_Page.f a0).bind fun t127 => (if t126 = t127 then ((va_Offset.f kj5 a0).bind fun t128 => (if t128 = (wrap64 (Int.tmod a0 4096)) then ((va_Index.f kj5 a0 a1).bind fun t129 => ((gunnyref30_Index.f kj5 a0 a1).bind fun t130 => (if t129 = t130 then ((va_At.f kj5 a2).bind fun t131 => (if t131 = x7_5 then ((gunnylaw30_lives.f kj5).bind fun t132 => (some t132)) else (some false))) else (some false)))) else (some false))) else (some false)))) else (some false)) = some r := H
          have A10 := Aside0.mk A100
          clear A100
          by_cases c11 : (t124 == t125) = true
          · rw [if_pos c11] at H
            have c11b0 : (t124 == t125) = true := c11
            (try (have c11b1 : decide (t124 = t125) = true := by simpa using c11))
            (try (have c11b2 : (t124 == t125) = true := by simpa using c11))
            clear c11
            replace H := Option.bind_eq_some_iff.mp H
            obtain ⟨t126, A120, H⟩ := H
            replace H : ((gunnyref30_Page.f a0).bind fun t127 => (if t126 = t127 then ((va_Offset.f kj5 a0).bind fun t128 => (if t128 = (wrap64 (Int.tmod a0 4096)) then ((va_Index.f kj5 a0 a1).bind fun t129 => ((gunnyref30_Index.f kj5 a0 a1).bind fun t130 => (if t129 = t130 then ((va_At.f kj5 a2).bind fun t131 => (if t131 = x7_5 then ((gunnylaw30_lives.f kj5).bind fun t132 => (some t132)) else (some false))) else (some false)))) else (some false))) else (some false))) = some r := H
            have A12 := Aside0.mk A120
            clear A120
            replace H := Option.bind_eq_some_iff.mp H
            obtain ⟨t127, A130, H⟩ := H
            replace H : (if t126 = t127 then ((va_Offset.f kj5 a0).bind fun t128 => (if t128 = (wrap64 (Int.tmod a0 4096)) then ((va_Index.f kj5 a0 a1).bind fun t129 => ((gunnyref30_Index.f kj5 a0 a1).bind fun t130 => (if t129 = t130 then ((va_At.f kj5 a2).bind fun t131 => (if t131 = x7_5 then ((gunnylaw30_lives.f kj5).bind fun t132 => (some t132)) else (some false))) else (some false)))) else (some false))) else (some false)) = some r := H
            have A13 := Aside0.mk A130
            clear A130
            by_cases c14 : t126 = t127
            · rw [if_pos c14] at H
              have c14b0 : (t126 == t127) = true := beq_iff_eq.mpr c14
              have c14b1 : (t126 != t127) = false := bne_eq_false_iff_eq.mpr c14
              clear c14
              replace H := Option.bind_eq_some_iff.mp H
              obtain ⟨t128, A150, H⟩ := H
              replace H : (if t128 = (wrap64 (Int.tmod a0 4096)) then ((va_Index.f kj5 a0 a1).bind fun t129 => ((gunnyref30_Index.f kj5 a0 a1).bind fun t130 => (if t129 = t130 then ((va_At.f kj5 a2).bind fun t131 => (if t131 = x7_5 then ((gunnylaw30_lives.f kj5).bind fun t132 => (some t132)) else (some false))) else (some false)))) else (some false)) = some r := H
              have A15 := Aside0.mk A150
              clear A150
              by_cases c16 : t128 = (wrap64 (Int.tmod a0 4096))
              · rw [if_pos c16] at H
                have c16b0 : (t128 == (wrap64 (Int.tmod a0 4096))) = true := beq_iff_eq.mpr c16
                have c16b1 : (t128 != (wrap64 (Int.tmod a0 4096))) = false := bne_eq_false_iff_eq.mpr c16
                clear c16
                replace H := Option.bind_eq_some_iff.mp H
                obtain ⟨t129, A170, H⟩ := H
                replace H : ((gunnyref30_Index.f kj5 a0 a1).bind fun t130 => (if t129 = t130 then ((va_At.f kj5 a2).bind fun t131 => (if t131 = x7_5 then ((gunnylaw30_lives.f kj5).bind fun t132 => (some t132)) else (some false))) else (some false))) = some r := H
                have A17 := Aside0.mk A170
                clear A170
                replace H := Option.bind_eq_some_iff.mp H
                obtain ⟨t130, A180, H⟩ := H
                replace H : (if t129 = t130 then ((va_At.f kj5 a2).bind fun t131 => (if t131 = x7_5 then ((gunnylaw30_lives.f kj5).bind fun t132 => (some t132)) else (some false))) else (some false)) = some r := H
                have A18 := Aside0.mk A180
                clear A180
                by_cases c19 : t129 = t130
                · rw [if_pos c19] at H
                  have c19b0 : (t129 == t130) = true := beq_iff_eq.mpr c19
                  have c19b1 : (t129 != t130) = false := bne_eq_false_iff_eq.mpr c19
                  clear c19
                  replace H := Option.bind_eq_some_iff.mp H
                  obtain ⟨t131, A200, H⟩ := H
                  replace H : (if t131 = x7_5 then ((gunnylaw30_lives.f kj5).bind fun t132 => (some t132)) else (some false)) = some r := H
                  have A20 := Aside0.mk A200
                  clear A200
                  by_cases c21 : t131 = x7_5
                  · rw [if_pos c21] at H
                    have c21b0 : (t131 == x7_5) = true := beq_iff_eq.mpr c21
                    have c21b1 : (t131 != x7_5) = false := bne_eq_false_iff_eq.mpr c21
                    clear c21
                    replace H := Option.bind_eq_some_iff.mp H
                    obtain ⟨t132, A220, H⟩ := H
                    replace H : (some t132) = some r := H
                    have A22 := Aside0.mk A220
                    clear A220
                    obtain rfl := Option.some.inj H
                    go_wp2_with (first | ((with_reducible refine gate_callee (f := 11) rfl ?_); refine goesL_ (some 19) rfl rfl Try.func11 (by kernel_rfl) rfl #[.int .u64 a0] rfl (by (try simp only [List.map_toArray, List.map_cons, List.map_nil]); first | done | rfl | (simp only [List.length_drop, List.length_take]; rfl)) ?_; (with_reducible refine (va_Canon.calls kj5 a0 t124 _ A9.out).mono ?_); rintro e w' ⟨rfl, ⟨nd, rfl⟩⟩; refine ⟨_, rfl, ?_⟩) | ((with_reducible refine gate_callee (f := 12) rfl ?_); refine goesL_ (some 21) rfl rfl Try.func12 (by kernel_rfl) rfl #[.int .u64 a0] rfl (by (try simp only [List.map_toArray, List.map_cons, List.map_nil]); first | done | rfl | (simp only [List.length_drop, List.length_take]; rfl)) ?_; (with_reducible refine (gunnyref30_Canon.calls kj5 a0 t125 _ A10.out).mono ?_); rintro e w' ⟨rfl, ⟨nd, rfl⟩⟩; refine ⟨_, rfl, ?_⟩) | (go_at_call 13; (with_reducible refine (va_Page.calls kj5 a0 t126 _ A12.out).mono ?_); rintro e w' ⟨rfl, ⟨nd, rfl⟩⟩) | (go_at_call 14; (with_reducible refine (gunnyref30_Page.calls a0 t127 _ A13.out).mono ?_); rintro e w' ⟨rfl, ⟨nd, rfl⟩⟩) | (go_at_call 15; (with_reducible refine (va_Offset.calls kj5 a0 t128 _ A15.out).mono ?_); rintro e w' ⟨rfl, ⟨nd, rfl⟩⟩) | (go_at_call 16; (with_reducible refine (va_Index.calls kj5 a0 a1 t129 _ A17.out).mono ?_); rintro e w' ⟨rfl, ⟨nd, rfl⟩⟩) | (go_at_call 17; (with_reducible refine (gunnyref30_Index.calls kj5 a0 a1 t130 _ A18.out).mono ?_); rintro e w' ⟨rfl, ⟨nd, rfl⟩⟩) | (go_at_call 18; (with_reducible refine (va_At.calls kj5 a2 t131 _ A20.out).mono ?_); rintro e w' ⟨rfl, ⟨nd, rfl⟩⟩) | (go_at_call 7; (with_reducible refine (gunnylaw30_lives.calls kj5  t132 _ A22.out).mono ?_); rintro e w23 ⟨rfl, hb⟩; have n0_ := Aside0.mk (below_step (by repeat (first | (with_reducible first | exact HB.out | apply below_alloc | apply pw_below_drewN | apply below_drew1) | exact HB.out)) hb); clear HB; have HB := n0_; clear n0_; (try clear hb); (try clear hb2); (try clear hk); (try clear hi)))
                    go_ret
                    exact ⟨by first | rfl | (simp [errW_none, errW_some] <;> rfl) | (simp [*, errW_none, errW_some] <;> rfl), by repeat (first | (with_reducible first | exact HB.out | apply below_alloc | apply pw_below_drewN | apply below_drew1) | exact HB.out)⟩
                  · rw [if_neg c21] at H
                    have c21b0 : (t131 == x7_5) = false := beq_eq_false_iff_ne.mpr c21
                    have c21b1 : (t131 != x7_5) = true := bne_iff_ne.mpr c21
                    obtain rfl := Option.some.inj H
                    go_wp2_with (first | ((with_reducible refine gate_callee (f := 11) rfl ?_); refine goesL_ (some 19) rfl rfl Try.func11 (by kernel_rfl) rfl #[.int .u64 a0] rfl (by (try simp only [List.map_toArray, List.map_cons, List.map_nil]); first | done | rfl | (simp only [List.length_drop, List.length_take]; rfl)) ?_; (with_reducible refine (va_Canon.calls kj5 a0 t124 _ A9.out).mono ?_); rintro e w' ⟨rfl, ⟨nd, rfl⟩⟩; refine ⟨_, rfl, ?_⟩) | ((with_reducible refine gate_callee (f := 12) rfl ?_); refine goesL_ (some 21) rfl rfl Try.func12 (by kernel_rfl) rfl #[.int .u64 a0] rfl (by (try simp only [List.map_toArray, List.map_cons, List.map_nil]); first | done | rfl | (simp only [List.length_drop, List.length_take]; rfl)) ?_; (with_reducible refine (gunnyref30_Canon.calls kj5 a0 t125 _ A10.out).mono ?_); rintro e w' ⟨rfl, ⟨nd, rfl⟩⟩; refine ⟨_, rfl, ?_⟩) | (go_at_call 13; (with_reducible refine (va_Page.calls kj5 a0 t126 _ A12.out).mono ?_); rintro e w' ⟨rfl, ⟨nd, rfl⟩⟩) | (go_at_call 14; (with_reducible refine (gunnyref30_Page.calls a0 t127 _ A13.out).mono ?_); rintro e w' ⟨rfl, ⟨nd, rfl⟩⟩) | (go_at_call 15; (with_reducible refine (va_Offset.calls kj5 a0 t128 _ A15.out).mono ?_); rintro e w' ⟨rfl, ⟨nd, rfl⟩⟩) | (go_at_call 16; (with_reducible refine (va_Index.calls kj5 a0 a1 t129 _ A17.out).mono ?_); rintro e w' ⟨rfl, ⟨nd, rfl⟩⟩) | (go_at_call 17; (with_reducible refine (gunnyref30_Index.calls kj5 a0 a1 t130 _ A18.out).mono ?_); rintro e w' ⟨rfl, ⟨nd, rfl⟩⟩) | (go_at_call 18; (with_reducible refine (va_At.calls kj5 a2 t131 _ A20.out).mono ?_); rintro e w' ⟨rfl, ⟨nd, rfl⟩⟩))
                    go_ret
                    exact ⟨by first | rfl | (simp [errW_none, errW_some] <;> rfl) | (simp [*, errW_none, errW_some] <;> rfl), by repeat (first | (with_reducible first | exact HB.out | apply below_alloc | apply pw_below_drewN | apply below_drew1) | exact HB.out)⟩
                · rw [if_neg c19] at H
                  have c19b0 : (t129 == t130) = false := beq_eq_false_iff_ne.mpr c19
                  have c19b1 : (t129 != t130) = true := bne_iff_ne.mpr c19
                  obtain rfl := Option.some.inj H
                  go_wp2_with (first | ((with_reducible refine gate_callee (f := 11) rfl ?_); refine goesL_ (some 19) rfl rfl Try.func11 (by kernel_rfl) rfl #[.int .u64 a0] rfl (by (try simp only [List.map_toArray, List.map_cons, List.map_nil]); first | done | rfl | (simp only [List.length_drop, List.length_take]; rfl)) ?_; (with_reducible refine (va_Canon.calls kj5 a0 t124 _ A9.out).mono ?_); rintro e w' ⟨rfl, ⟨nd, rfl⟩⟩; refine ⟨_, rfl, ?_⟩) | ((with_reducible refine gate_callee (f := 12) rfl ?_); refine goesL_ (some 21) rfl rfl Try.func12 (by kernel_rfl) rfl #[.int .u64 a0] rfl (by (try simp only [List.map_toArray, List.map_cons, List.map_nil]); first | done | rfl | (simp only [List.length_drop, List.length_take]; rfl)) ?_; (with_reducible refine (gunnyref30_Canon.calls kj5 a0 t125 _ A10.out).mono ?_); rintro e w' ⟨rfl, ⟨nd, rfl⟩⟩; refine ⟨_, rfl, ?_⟩) | (go_at_call 13; (with_reducible refine (va_Page.calls kj5 a0 t126 _ A12.out).mono ?_); rintro e w' ⟨rfl, ⟨nd, rfl⟩⟩) | (go_at_call 14; (with_reducible refine (gunnyref30_Page.calls a0 t127 _ A13.out).mono ?_); rintro e w' ⟨rfl, ⟨nd, rfl⟩⟩) | (go_at_call 15; (with_reducible refine (va_Offset.calls kj5 a0 t128 _ A15.out).mono ?_); rintro e w' ⟨rfl, ⟨nd, rfl⟩⟩) | (go_at_call 16; (with_reducible refine (va_Index.calls kj5 a0 a1 t129 _ A17.out).mono ?_); rintro e w' ⟨rfl, ⟨nd, rfl⟩⟩) | (go_at_call 17; (with_reducible refine (gunnyref30_Index.calls kj5 a0 a1 t130 _ A18.out).mono ?_); rintro e w' ⟨rfl, ⟨nd, rfl⟩⟩))
                  go_ret
                  exact ⟨by first | rfl | (simp [errW_none, errW_some] <;> rfl) | (simp [*, errW_none, errW_some] <;> rfl), by repeat (first | (with_reducible first | exact HB.out | apply below_alloc | apply pw_below_drewN | apply below_drew1) | exact HB.out)⟩
              · rw [if_neg c16] at H
                have c16b0 : (t128 == (wrap64 (Int.tmod a0 4096))) = false := beq_eq_false_iff_ne.mpr c16
                have c16b1 : (t128 != (wrap64 (Int.tmod a0 4096))) = true := bne_iff_ne.mpr c16
                obtain rfl := Option.some.inj H
                go_wp2_with (first | ((with_reducible refine gate_callee (f := 11) rfl ?_); refine goesL_ (some 19) rfl rfl Try.func11 (by kernel_rfl) rfl #[.int .u64 a0] rfl (by (try simp only [List.map_toArray, List.map_cons, List.map_nil]); first | done | rfl | (simp only [List.length_drop, List.length_take]; rfl)) ?_; (with_reducible refine (va_Canon.calls kj5 a0 t124 _ A9.out).mono ?_); rintro e w' ⟨rfl, ⟨nd, rfl⟩⟩; refine ⟨_, rfl, ?_⟩) | ((with_reducible refine gate_callee (f := 12) rfl ?_); refine goesL_ (some 21) rfl rfl Try.func12 (by kernel_rfl) rfl #[.int .u64 a0] rfl (by (try simp only [List.map_toArray, List.map_cons, List.map_nil]); first | done | rfl | (simp only [List.length_drop, List.length_take]; rfl)) ?_; (with_reducible refine (gunnyref30_Canon.calls kj5 a0 t125 _ A10.out).mono ?_); rintro e w' ⟨rfl, ⟨nd, rfl⟩⟩; refine ⟨_, rfl, ?_⟩) | (go_at_call 13; (with_reducible refine (va_Page.calls kj5 a0 t126 _ A12.out).mono ?_); rintro e w' ⟨rfl, ⟨nd, rfl⟩⟩) | (go_at_call 14; (with_reducible refine (gunnyref30_Page.calls a0 t127 _ A13.out).mono ?_); rintro e w' ⟨rfl, ⟨nd, rfl⟩⟩) | (go_at_call 15; (with_reducible refine (va_Offset.calls kj5 a0 t128 _ A15.out).mono ?_); rintro e w' ⟨rfl, ⟨nd, rfl⟩⟩))
                go_ret
                exact ⟨by first | rfl | (simp [errW_none, errW_some] <;> rfl) | (simp [*, errW_none, errW_some] <;> rfl), by repeat (first | (with_reducible first | exact HB.out | apply below_alloc | apply pw_below_drewN | apply below_drew1) | exact HB.out)⟩
            · rw [if_neg c14] at H
              have c14b0 : (t126 == t127) = false := beq_eq_false_iff_ne.mpr c14
              have c14b1 : (t126 != t127) = true := bne_iff_ne.mpr c14
              obtain rfl := Option.some.inj H
              go_wp2_with (first | ((with_reducible refine gate_callee (f := 11) rfl ?_); refine goesL_ (some 19) rfl rfl Try.func11 (by kernel_rfl) rfl #[.int .u64 a0] rfl (by (try simp only [List.map_toArray, List.map_cons, List.map_nil]); first | done | rfl | (simp only [List.length_drop, List.length_take]; rfl)) ?_; (with_reducible refine (va_Canon.calls kj5 a0 t124 _ A9.out).mono ?_); rintro e w' ⟨rfl, ⟨nd, rfl⟩⟩; refine ⟨_, rfl, ?_⟩) | ((with_reducible refine gate_callee (f := 12) rfl ?_); refine goesL_ (some 21) rfl rfl Try.func12 (by kernel_rfl) rfl #[.int .u64 a0] rfl (by (try simp only [List.map_toArray, List.map_cons, List.map_nil]); first | done | rfl | (simp only [List.length_drop, List.length_take]; rfl)) ?_; (with_reducible refine (gunnyref30_Canon.calls kj5 a0 t125 _ A10.out).mono ?_); rintro e w' ⟨rfl, ⟨nd, rfl⟩⟩; refine ⟨_, rfl, ?_⟩) | (go_at_call 13; (with_reducible refine (va_Page.calls kj5 a0 t126 _ A12.out).mono ?_); rintro e w' ⟨rfl, ⟨nd, rfl⟩⟩) | (go_at_call 14; (with_reducible refine (gunnyref30_Page.calls a0 t127 _ A13.out).mono ?_); rintro e w' ⟨rfl, ⟨nd, rfl⟩⟩))
              go_ret
              exact ⟨by first | rfl | (simp [errW_none, errW_some] <;> rfl) | (simp [*, errW_none, errW_some] <;> rfl), by repeat (first | (with_reducible first | exact HB.out | apply below_alloc | apply pw_below_drewN | apply below_drew1) | exact HB.out)⟩
          · rw [if_neg c11] at H
            have c11b0 : (t124 == t125) = false := by simpa using c11
            (try (have c11b1 : decide (t124 = t125) = false := by simpa using c11))
            (try (have c11b2 : (t124 == t125) = false := by simpa using c11))
            (try (have c11b3 : ¬ (t124 = t125) := by simpa using c11))
            clear c11
            obtain rfl := Option.some.inj H
            go_wp2_with (first | ((with_reducible refine gate_callee (f := 11) rfl ?_); refine goesL_ (some 19) rfl rfl Try.func11 (by kernel_rfl) rfl #[.int .u64 a0] rfl (by (try simp only [List.map_toArray, List.map_cons, List.map_nil]); first | done | rfl | (simp only [List.length_drop, List.length_take]; rfl)) ?_; (with_reducible refine (va_Canon.calls kj5 a0 t124 _ A9.out).mono ?_); rintro e w' ⟨rfl, ⟨nd, rfl⟩⟩; refine ⟨_, rfl, ?_⟩) | ((with_reducible refine gate_callee (f := 12) rfl ?_); refine goesL_ (some 21) rfl rfl Try.func12 (by kernel_rfl) rfl #[.int .u64 a0] rfl (by (try simp only [List.map_toArray, List.map_cons, List.map_nil]); first | done | rfl | (simp only [List.length_drop, List.length_take]; rfl)) ?_; (with_reducible refine (gunnyref30_Canon.calls kj5 a0 t125 _ A10.out).mono ?_); rintro e w' ⟨rfl, ⟨nd, rfl⟩⟩; refine ⟨_, rfl, ?_⟩))
            go_ret
            exact ⟨by first | rfl | (simp [errW_none, errW_some] <;> rfl) | (simp [*, errW_none, errW_some] <;> rfl), by repeat (first | (with_reducible first | exact HB.out | apply below_alloc | apply pw_below_drewN | apply below_drew1) | exact HB.out)⟩

/-- THE ONE PURE STATEMENT of gunnylaw30_VaParts: yours. -/
def gunnylaw30_VaParts.Pure : Prop := ∀ (a0 : Int) (a1 : Int) (a2 : Int), (Lit.int .u64 a0).wf = true → (Lit.int .i64 a1).wf = true → (Lit.int .i64 a2).wf = true → ∃ k, gunnylaw30_VaParts.f k a0 a1 a2 = some true
theorem gunnylaw30_VaParts.walk (P : gunnylaw30_VaParts.Pure) (a0 : Int) (a1 : Int) (a2 : Int) (w : World) (w0 : (Lit.int .u64 a0).wf = true) (w1 : (Lit.int .i64 a1).wf = true) (w2 : (Lit.int .i64 a2).wf = true) :
    Calls Try.prog 4 #[.int .u64 a0, .int .i64 a1, .int .i64 a2] w fun e w' => e = .returned (.bool true) ∧ Below w.heap.size w w' := by
  obtain ⟨k, h⟩ := P a0 a1 a2 w0 w1 w2
  refine (gunnylaw30_VaParts.calls k a0 a1 a2 true w h).mono ?_
  rintro e w' ⟨rfl, hd⟩
  exact ⟨rfl, hd⟩

/-! ### gunnylaw30_VaBack: function 5 -/
def gunnylaw30_VaBack.j0 : Nat → Int → Int → Bool → Option (Bool)
  | 0, _, _, _ => none
  | k + 1, x0, x3, x35 => if x35 = true then (some false) else ((va_Page.f k x0).bind fun t145 => ((va_At.f k t145).bind fun t146 => ((va_Offset.f k x0).bind fun t147 => (if (IntKind.u64.wrap (t146 + (IntKind.u64.wrap (t147)))) = x3 then ((va_Page.f k t146).bind fun t148 => ((va_Page.f k x0).bind fun t149 => (if t148 = t149 then ((va_Offset.f k t146).bind fun t150 => (if t150 = 0 then ((va_Canon.f k t146).bind fun t151 => (if t151 = true then ((gunnylaw30_lives.f k).bind fun t152 => (some t152)) else (some false))) else (some false))) else (some false)))) else (some false)))))
def gunnylaw30_VaBack.f (k : Nat) (a0 : Int) : Option (Bool) := (va_Offset.f k a0).bind fun t133 => ((va_Index.f k a0 0).bind fun t134 => ((va_Index.f k a0 1).bind fun t135 => ((va_Index.f k a0 2).bind fun t136 => ((va_Index.f k a0 3).bind fun t137 => ((va_Make.f k t133 (([t134, t135, t136, t137] : List Int))).bind fun bt141 => (if bt141.2 = true then ((va_Canon.f k bt141.1).bind fun t143 => (if t143 = true then ((va_Canon.f k a0).bind fun t144 => (gunnylaw30_VaBack.j0 k a0 bt141.1 ((a0 == bt141.1) != t144))) else (gunnylaw30_VaBack.j0 k a0 bt141.1 true))) else (gunnylaw30_VaBack.j0 k a0 bt141.1 true)))))))
theorem gunnylaw30_VaBack.mono_l : ∀ k, (∀ y0 y1 y2, LeO (gunnylaw30_VaBack.j0 k y0 y1 y2) (gunnylaw30_VaBack.j0 (k + 1) y0 y1 y2))
  | 0 => fun _ _ _ r h => by simp [gunnylaw30_VaBack.j0] at h
  | k + 1 => by
    have ih0 := gunnylaw30_VaBack.mono_l k
    · intro y0 y1 y2
      unfold gunnylaw30_VaBack.j0
      repeat' first
      | (with_reducible exact ih0 _ _ _)
      | (with_reducible exact gunnylaw30_lives.mono _)
      | (with_reducible exact va_At.mono _ _)
      | (with_reducible exact va_Canon.mono _ _)
      | (with_reducible exact va_Index.mono _ _ _)
      | (with_reducible exact va_Make.mono _ _ _)
      | (with_reducible exact va_Offset.mono _ _)
      | (with_reducible exact va_Page.mono _ _)
      | (with_reducible exact LeO.refl _)
      | (with_reducible exact LeO.none _)
      | (with_reducible refine LeO.ite ?_ ?_)
      | (with_reducible refine LeO.bind ?_ (fun _ => ?_))
      | exact ih0 _ _ _
      | exact gunnylaw30_lives.mono _
      | exact va_At.mono _ _
      | exact va_Canon.mono _ _
      | exact va_Index.mono _ _ _
      | exact va_Make.mono _ _ _
      | exact va_Offset.mono _ _
      | exact va_Page.mono _ _
      | exact LeO.none _
      | refine LeO.ite ?_ ?_
      | refine LeO.bind ?_ (fun _ => ?_)
theorem gunnylaw30_VaBack.mono : ∀ a0 k, LeO (gunnylaw30_VaBack.f k a0) (gunnylaw30_VaBack.f (k + 1) a0) := by
  intro a0 k
  have ih0 := gunnylaw30_VaBack.mono_l k
  unfold gunnylaw30_VaBack.f
  repeat' first
      | (with_reducible exact ih0 _ _ _)
      | (with_reducible exact gunnylaw30_lives.mono _)
      | (with_reducible exact va_At.mono _ _)
      | (with_reducible exact va_Canon.mono _ _)
      | (with_reducible exact va_Index.mono _ _ _)
      | (with_reducible exact va_Make.mono _ _ _)
      | (with_reducible exact va_Offset.mono _ _)
      | (with_reducible exact va_Page.mono _ _)
      | (with_reducible exact LeO.refl _)
      | (with_reducible exact LeO.none _)
      | (with_reducible refine LeO.ite ?_ ?_)
      | (with_reducible refine LeO.bind ?_ (fun _ => ?_))
      | exact ih0 _ _ _
      | exact gunnylaw30_lives.mono _
      | exact va_At.mono _ _
      | exact va_Canon.mono _ _
      | exact va_Index.mono _ _ _
      | exact va_Make.mono _ _ _
      | exact va_Offset.mono _ _
      | exact va_Page.mono _ _
      | exact LeO.none _
      | refine LeO.ite ?_ ?_
      | refine LeO.bind ?_ (fun _ => ?_)
set_option maxHeartbeats 8000000 in
set_option maxRecDepth 100000 in
theorem gunnylaw30_VaBack.calls (k : Nat) (a0 : Int) (r : Bool) (w : World) (h : gunnylaw30_VaBack.f k a0 = some r) :
    Calls Try.prog 5 #[.int .u64 a0] w fun e w' => e = .returned (.bool r) ∧ Below w.heap.size w w' := by
  have HB := Aside0.mk (Below.refl w.heap.size w)
  have H : ((va_Offset.f k a0).bind fun t133 => ((va_Index.f k a0 0).bind fun t134 => ((va_Index.f k a0 1).bind fun t135 => ((va_Index.f k a0 2).bind fun t136 => ((va_Index.f k a0 3).bind fun t137 => ((va_Make.f k t133 (([t134, t135, t136, t137] : List Int))).bind fun bt141 => (if bt141.2 = true then ((va_Canon.f k bt141.1).bind fun t143 => (if t143 = true then ((va_Canon.f k a0).bind fun t144 => (gunnylaw30_VaBack.j0 k a0 bt141.1 ((a0 == bt141.1) != t144))) else (gunnylaw30_VaBack.j0 k a0 bt141.1 true))) else (gunnylaw30_VaBack.j0 k a0 bt141.1 true)))))))) = some r := h
  clear h
  replace H := Option.bind_eq_some_iff.mp H
  obtain ⟨t133, A20, H⟩ := H
  replace H : ((va_Index.f k a0 0).bind fun t134 => ((va_Index.f k a0 1).bind fun t135 => ((va_Index.f k a0 2).bind fun t136 => ((va_Index.f k a0 3).bind fun t137 => ((va_Make.f k t133 (([t134, t135, t136, t137] : List Int))).bind fun bt141 => (if bt141.2 = true then ((va_Canon.f k bt141.1).bind fun t143 => (if t143 = true then ((va_Canon.f k a0).bind fun t144 => (gunnylaw30_VaBack.j0 k a0 bt141.1 ((a0 == bt141.1) != t144))) else (gunnylaw30_VaBack.j0 k a0 bt141.1 true))) else (gunnylaw30_VaBack.j0 k a0 bt141.1 true))))))) = some r := H
  have A2 := Aside0.mk A20
  clear A20
  replace H := Option.bind_eq_some_iff.mp H
  obtain ⟨t134, A30, H⟩ := H
  replace H : ((va_Index.f k a0 1).bind fun t135 => ((va_Index.f k a0 2).bind fun t136 => ((va_Index.f k a0 3).bind fun t137 => ((va_Make.f k t133 (([t134, t135, t136, t137] : List Int))).bind fun bt141 => (if bt141.2 = true then ((va_Canon.f k bt141.1).bind fun t143 => (if t143 = true then ((va_Canon.f k a0).bind fun t144 => (gunnylaw30_VaBack.j0 k a0 bt141.1 ((a0 == bt141.1) != t144))) else (gunnylaw30_VaBack.j0 k a0 bt141.1 true))) else (gunnylaw30_VaBack.j0 k a0 bt141.1 true)))))) = some r := H
  have A3 := Aside0.mk A30
  clear A30
  replace H := Option.bind_eq_some_iff.mp H
  obtain ⟨t135, A40, H⟩ := H
  replace H : ((va_Index.f k a0 2).bind fun t136 => ((va_Index.f k a0 3).bind fun t137 => ((va_Make.f k t133 (([t134, t135, t136, t137] : List Int))).bind fun bt141 => (if bt141.2 = true then ((va_Canon.f k bt141.1).bind fun t143 => (if t143 = true then ((va_Canon.f k a0).bind fun t144 => (gunnylaw30_VaBack.j0 k a0 bt141.1 ((a0 == bt141.1) != t144))) else (gunnylaw30_VaBack.j0 k a0 bt141.1 true))) else (gunnylaw30_VaBack.j0 k a0 bt141.1 true))))) = some r := H
  have A4 := Aside0.mk A40
  clear A40
  replace H := Option.bind_eq_some_iff.mp H
  obtain ⟨t136, A50, H⟩ := H
  replace H : ((va_Index.f k a0 3).bind fun t137 => ((va_Make.f k t133 (([t134, t135, t136, t137] : List Int))).bind fun bt141 => (if bt141.2 = true then ((va_Canon.f k bt141.1).bind fun t143 => (if t143 = true then ((va_Canon.f k a0).bind fun t144 => (gunnylaw30_VaBack.j0 k a0 bt141.1 ((a0 == bt141.1) != t144))) else (gunnylaw30_VaBack.j0 k a0 bt141.1 true))) else (gunnylaw30_VaBack.j0 k a0 bt141.1 true)))) = some r := H
  have A5 := Aside0.mk A50
  clear A50
  replace H := Option.bind_eq_some_iff.mp H
  obtain ⟨t137, A60, H⟩ := H
  replace H : ((va_Make.f k t133 (([t134, t135, t136, t137] : List Int))).bind fun bt141 => (if bt141.2 = true then ((va_Canon.f k bt141.1).bind fun t143 => (if t143 = true then ((va_Canon.f k a0).bind fun t144 => (gunnylaw30_VaBack.j0 k a0 bt141.1 ((a0 == bt141.1) != t144))) else (gunnylaw30_VaBack.j0 k a0 bt141.1 true))) else (gunnylaw30_VaBack.j0 k a0 bt141.1 true))) = some r := H
  have A6 := Aside0.mk A60
  clear A60
  obtain ⟨y138, hy138⟩ : ∃ y_ : List Int, y_ = (([t134, t135, t136, t137] : List Int)) := ⟨_, rfl⟩
  replace H : ((va_Make.f k t133 y138).bind fun bt141 => (if bt141.2 = true then ((va_Canon.f k bt141.1).bind fun t143 => (if t143 = true then ((va_Canon.f k a0).bind fun t144 => (gunnylaw30_VaBack.j0 k a0 bt141.1 ((a0 == bt141.1) != t144))) else (gunnylaw30_VaBack.j0 k a0 bt141.1 true))) else (gunnylaw30_VaBack.j0 k a0 bt141.1 true))) = some r := by first | (rw [hy138]; with_reducible exact H) | (have H2_ := (Option.bind_some _ _).symm.trans H; rw [hy138]; with_reducible exact H2_) | (have H2_ := (Option.bind_some _ _).symm.trans H; with_reducible exact H2_) | with_reducible exact H | (rw [hy138]; exact H) | exact H
  have Ny138 := Aside0.mk hy138
  clear hy138
  replace H := Option.bind_eq_some_iff.mp H
  obtain ⟨⟨t141, t142⟩, A70, H⟩ := H
  replace H : (if t142 = true then ((va_Canon.f k t141).bind fun t143 => (if t143 = true then ((va_Canon.f k a0).bind fun t144 => (gunnylaw30_VaBack.j0 k a0 t141 ((a0 == t141) != t144))) else (gunnylaw30_VaBack.j0 k a0 t141 true))) else (gunnylaw30_VaBack.j0 k a0 t141 true)) = some r := H
  have A7 := Aside0.mk A70
  clear A70
  have HC8 := Aside0.mk H
  clear H
  go_enter Try.func5, Try.ntmps5
  go_upto_region 2 with (first | ((with_reducible refine gate_callee (f := 15) rfl ?_); refine goesL_ (some 8) rfl rfl Try.func15 (by kernel_rfl) rfl #[.int .u64 a0] rfl (by (try simp only [List.map_toArray, List.map_cons, List.map_nil]); first | done | rfl | (simp only [List.length_drop, List.length_take]; rfl)) ?_; (with_reducible refine (va_Offset.calls k a0 t133 _ A2.out).mono ?_); rintro e w' ⟨rfl, ⟨nd, rfl⟩⟩; refine ⟨_, rfl, ?_⟩) | ((with_reducible refine gate_callee (f := 16) rfl ?_); refine goesL_ (some 10) rfl rfl Try.func16 (by kernel_rfl) rfl #[.int .u64 a0, .int .i64 0] rfl (by (try simp only [List.map_toArray, List.map_cons, List.map_nil]); first | done | rfl | (simp only [List.length_drop, List.length_take]; rfl)) ?_; (with_reducible refine (va_Index.calls k a0 0 t134 _ A3.out).mono ?_); rintro e w' ⟨rfl, ⟨nd, rfl⟩⟩; refine ⟨_, rfl, ?_⟩) | ((with_reducible refine gate_callee (f := 16) rfl ?_); refine goesL_ (some 12) rfl rfl Try.func16 (by kernel_rfl) rfl #[.int .u64 a0, .int .i64 1] rfl (by (try simp only [List.map_toArray, List.map_cons, List.map_nil]); first | done | rfl | (simp only [List.length_drop, List.length_take]; rfl)) ?_; (with_reducible refine (va_Index.calls k a0 1 t135 _ A4.out).mono ?_); rintro e w' ⟨rfl, ⟨nd, rfl⟩⟩; refine ⟨_, rfl, ?_⟩) | ((with_reducible refine gate_callee (f := 16) rfl ?_); refine goesL_ (some 14) rfl rfl Try.func16 (by kernel_rfl) rfl #[.int .u64 a0, .int .i64 2] rfl (by (try simp only [List.map_toArray, List.map_cons, List.map_nil]); first | done | rfl | (simp only [List.length_drop, List.length_take]; rfl)) ?_; (with_reducible refine (va_Index.calls k a0 2 t136 _ A5.out).mono ?_); rintro e w' ⟨rfl, ⟨nd, rfl⟩⟩; refine ⟨_, rfl, ?_⟩) | ((with_reducible refine gate_callee (f := 16) rfl ?_); refine goesL_ (some 16) rfl rfl Try.func16 (by kernel_rfl) rfl #[.int .u64 a0, .int .i64 3] rfl (by (try simp only [List.map_toArray, List.map_cons, List.map_nil]); first | done | rfl | (simp only [List.length_drop, List.length_take]; rfl)) ?_; (with_reducible refine (va_Index.calls k a0 3 t137 _ A6.out).mono ?_); rintro e w' ⟨rfl, ⟨nd, rfl⟩⟩; refine ⟨_, rfl, ?_⟩) | ((with_reducible refine gate_dst (N := 17) rfl ?_); refine Kd.R_lit (Kd.int .i64) _ 3 ?hg (N := 17) ?hd (xs := ([t134, t135, t136, t137] : List Int)) (inner := [.int .i64 t134, .int .i64 t135, .int .i64 t136, .int .i64 t137]) (ok := fun _ => True) (okp := fun _ => True) ?hr ?hp (fun _ hk => hk) trivial (Below.refl _ _) (Nat.le_refl _) (by simp) ?_; (case hd => rfl); (case hg => rfl); (case hr => first | (go_simp; done) | (go_simp; rfl)); (case hp => exact (Reps.one (show Kd.M (Kd.int .i64) _ _ _ t134 [.int .i64 t134] from rfl) (Reps.one (show Kd.M (Kd.int .i64) _ _ _ t135 [.int .i64 t135] from rfl) (Reps.one (show Kd.M (Kd.int .i64) _ _ _ t136 [.int .i64 t136] from rfl) (Reps.one (show Kd.M (Kd.int .i64) _ _ _ t137 [.int .i64 t137] from rfl) (Reps.none _ _)))))); intro v139 w9 ho10 hb hg_ hnew_; clear hg_ hnew_; (first | rw [← Ny138.out] at ho10 | (simp only [Int.reduceToNat] at ho10; rw [← Ny138.out] at ho10)); have n0_ := Aside0.mk (Kd.R_lower ho10 (below_size (by repeat (first | (with_reducible first | exact HB.out | apply below_alloc | apply pw_below_drewN | apply below_drew1) | exact HB.out)))); have n1_ := Aside0.mk (below_step (by repeat (first | (with_reducible first | exact HB.out | apply below_alloc | apply pw_below_drewN | apply below_drew1) | exact HB.out)) hb); clear HB; have HO140 := n0_; have HB := n1_; clear n0_ n1_; clear hb ho10; obtain ⟨Ao11, co11, eo11⟩ := Kd.R_slice HO140.out; subst eo11) | ((with_reducible refine gate_callee (f := 8) rfl ?_); refine goesL_ (some 18) rfl rfl Try.func8 (by kernel_rfl) rfl #[.int .i64 t133, .slice Ao11 y138.length co11] rfl (by (try simp only [List.map_toArray, List.map_cons, List.map_nil]); first | done | rfl | (simp only [List.length_drop, List.length_take]; rfl)) ?_; (with_reducible refine (va_Make.calls k t133 _ _ y138 t141 t142 _ ?side1 ?side2 A7.out).mono ?_); (case side1 => repeat (first | exact (Kd.R_reads' HO140.out).2.2 | (with_reducible refine Kd.C_alloc ?_ _) | (with_reducible refine Kd.C_drewN ?_ _) | (with_reducible refine Kd.C_drew ?_))); (case side2 => exact (Kd.R_reads' HO140.out).2.1); rintro e w' ⟨rfl, ⟨nd, rfl⟩⟩; refine ⟨_, rfl, ?_⟩))
  (try simp only [Act.put, List.setIfInBounds_toArray, List.set_cons_zero, List.set_cons_succ])
  go_cut [35] (fun v35 wc => ∃ (kq : Nat) (x35_7 : Bool), v35 = .bool x35_7 ∧ Aside0 (gunnylaw30_VaBack.j0 kq a0 t141 x35_7 = some r) ∧ Aside0 (kq ≤ k) ∧ Aside0 (Below w.heap.size w wc))
  case first =>
    have H := HC8.out
    clear HC8
    by_cases c12 : t142 = true
    · subst c12
      have H1 : ((va_Canon.f k t141).bind fun t143 => (if t143 = true then ((va_Canon.f k a0).bind fun t144 => (gunnylaw30_VaBack.j0 k a0 t141 ((a0 == t141) != t144))) else (gunnylaw30_VaBack.j0 k a0 t141 true))) = some r := by rw [if_pos rfl] at H; exact H
      clear H
      have H := H1
      clear H1
      replace H := Option.bind_eq_some_iff.mp H
      obtain ⟨t143, A130, H⟩ := H
      replace H : (if t143 = true then ((va_Canon.f k a0).bind fun t144 => (gunnylaw30_VaBack.j0 k a0 t141 ((a0 == t141) != t144))) else (gunnylaw30_VaBack.j0 k a0 t141 true)) = some r := H
      have A13 := Aside0.mk A130
      clear A130
      by_cases c14 : t143 = true
      · subst c14
        have H1 : ((va_Canon.f k a0).bind fun t144 => (gunnylaw30_VaBack.j0 k a0 t141 ((a0 == t141) != t144))) = some r := by rw [if_pos rfl] at H; exact H
        clear H
        have H := H1
        clear H1
        replace H := Option.bind_eq_some_iff.mp H
        obtain ⟨t144, A150, H⟩ := H
        replace H : (gunnylaw30_VaBack.j0 k a0 t141 ((a0 == t141) != t144)) = some r := H
        have A15 := Aside0.mk A150
        clear A150
        have H' := Aside0.mk H
        clear H
        go_wp2_with (first | (go_at_call 11; (with_reducible refine (va_Canon.calls k t141 true _ A13.out).mono ?_); rintro e w' ⟨rfl, ⟨nd, rfl⟩⟩) | (go_at_call 11; (with_reducible refine (va_Canon.calls k a0 t144 _ A15.out).mono ?_); rintro e w' ⟨rfl, ⟨nd, rfl⟩⟩))
        go_meet
        case rel => exact ⟨_, (((a0 == t141) != t144)), (by first | rfl | (simp; done) | (simp [*]; done)), H', ⟨by first | omega | exact Nat.le_refl _⟩, ⟨by repeat (first | (with_reducible first | exact HB.out | apply below_alloc | apply pw_below_drewN | apply below_drew1) | exact HB.out)⟩⟩
      · replace c14 := Bool.eq_false_iff.mpr c14
        subst c14
        have H1 : (gunnylaw30_VaBack.j0 k a0 t141 true) = some r := by rw [if_neg (show ¬ (false = true) by decide)] at H; exact H
        clear H
        have H := H1
        clear H1
        have H' := Aside0.mk H
        clear H
        go_wp2_with (first | (go_at_call 11; (with_reducible refine (va_Canon.calls k t141 false _ A13.out).mono ?_); rintro e w' ⟨rfl, ⟨nd, rfl⟩⟩))
        go_meet
        case rel => exact ⟨_, (true), (by first | rfl | (simp; done) | (simp [*]; done)), H', ⟨by first | omega | exact Nat.le_refl _⟩, ⟨by repeat (first | (with_reducible first | exact HB.out | apply below_alloc | apply pw_below_drewN | apply below_drew1) | exact HB.out)⟩⟩
    · replace c12 := Bool.eq_false_iff.mpr c12
      subst c12
      have H1 : (gunnylaw30_VaBack.j0 k a0 t141 true) = some r := by rw [if_neg (show ¬ (false = true) by decide)] at H; exact H
      clear H
      have H := H1
      clear H1
      have H' := Aside0.mk H
      clear H
      go_wp2
      go_meet
      case rel => exact ⟨_, (true), (by first | rfl | (simp; done) | (simp [*]; done)), H', ⟨by first | omega | exact Nat.le_refl _⟩, ⟨by repeat (first | (with_reducible first | exact HB.out | apply below_alloc | apply pw_below_drewN | apply below_drew1) | exact HB.out)⟩⟩
  case rest =>
    clear HC8
    try clear c1
    try clear p2
    try clear c5
    try clear c8
    try clear c12
    try clear c14
    try clear c15
    obtain ⟨kq, x35_7, rfl, HA, HJ7, HB⟩ := hcut
    cases kq with
    | zero => exact absurd HA.out (by simp [gunnylaw30_VaBack.j0])
    | succ kj7 =>
      have H := HA.out
      clear HA
      simp only [gunnylaw30_VaBack.j0] at H
      by_cases c16 : x35_7 = true
      · subst c16
        have H1 : (some false) = some r := by rw [if_pos rfl] at H; exact H
        clear H
        have H := H1
        clear H1
        obtain rfl := Option.some.inj H
        go_wp2
        go_ret
        exact ⟨by first | rfl | (simp [errW_none, errW_some] <;> rfl) | (simp [*, errW_none, errW_some] <;> rfl), by repeat (first | (with_reducible first | exact HB.out | apply below_alloc | apply pw_below_drewN | apply below_drew1) | exact HB.out)⟩
      · replace c16 := Bool.eq_false_iff.mpr c16
        subst c16
        have H1 : ((va_Page.f kj7 a0).bind fun t145 => ((va_At.f kj7 t145).bind fun t146 => ((va_Offset.f kj7 a0).bind fun t147 => (if (IntKind.u64.wrap (t146 + (IntKind.u64.wrap (t147)))) = t141 then ((va_Page.f kj7 t146).bind fun t148 => ((va_Page.f kj7 a0).bind fun t149 => (if t148 = t149 then ((va_Offset.f kj7 t146).bind fun t150 => (if t150 = 0 then ((va_Canon.f kj7 t146).bind fun t151 => (if t151 = true then ((gunnylaw30_lives.f kj7).bind fun t152 => (some t152)) else (some false))) else (some false))) else (some false)))) else (some false))))) = some r := by rw [if_neg (show ¬ (false = true) by decide)] at H; exact H
        clear H
        have H := H1
        clear H1
        replace H := Option.bind_eq_some_iff.mp H
        obtain ⟨t145, A170, H⟩ := H
        replace H : ((va_At.f kj7 t145).bind fun t146 => ((va_Offset.f kj7 a0).bind fun t147 => (if (IntKind.u64.wrap (t146 + (IntKind.u64.wrap (t147)))) = t141 then ((va_Page.f kj7 t146).bind fun t148 => ((va_Page.f kj7 a0).bind fun t149 => (if t148 = t149 then ((va_Offset.f kj7 t146).bind fun t150 => (if t150 = 0 then ((va_Canon.f kj7 t146).bind fun t151 => (if t151 = true then ((gunnylaw30_lives.f kj7).bind fun t152 => (some t152)) else (some false))) else (some false))) else (some false)))) else (some false)))) = some r := H
        have A17 := Aside0.mk A170
        clear A170
        replace H := Option.bind_eq_some_iff.mp H
        obtain ⟨t146, A180, H⟩ := H
        replace H : ((va_Offset.f kj7 a0).bind fun t147 => (if (IntKind.u64.wrap (t146 + (IntKind.u64.wrap (t147)))) = t141 then ((va_Page.f kj7 t146).bind fun t148 => ((va_Page.f kj7 a0).bind fun t149 => (if t148 = t149 then ((va_Offset.f kj7 t146).bind fun t150 => (if t150 = 0 then ((va_Canon.f kj7 t146).bind fun t151 => (if t151 = true then ((gunnylaw30_lives.f kj7).bind fun t152 => (some t152)) else (some false))) else (some false))) else (some false)))) else (some false))) = some r := H
        have A18 := Aside0.mk A180
        clear A180
        replace H := Option.bind_eq_some_iff.mp H
        obtain ⟨t147, A190, H⟩ := H
        replace H : (if (IntKind.u64.wrap (t146 + (IntKind.u64.wrap (t147)))) = t141 then ((va_Page.f kj7 t146).bind fun t148 => ((va_Page.f kj7 a0).bind fun t149 => (if t148 = t149 then ((va_Offset.f kj7 t146).bind fun t150 => (if t150 = 0 then ((va_Canon.f kj7 t146).bind fun t151 => (if t151 = true then ((gunnylaw30_lives.f kj7).bind fun t152 => (some t152)) else (some false))) else (some false))) else (some false)))) else (some false)) = some r := H
        have A19 := Aside0.mk A190
        clear A190
        by_cases c20 : (IntKind.u64.wrap (t146 + (IntKind.u64.wrap (t147)))) = t141
        · rw [if_pos c20] at H
          have c20b0 : ((IntKind.u64.wrap (t146 + (IntKind.u64.wrap (t147)))) == t141) = true := beq_iff_eq.mpr c20
          have c20b1 : ((IntKind.u64.wrap (t146 + (IntKind.u64.wrap (t147)))) != t141) = false := bne_eq_false_iff_eq.mpr c20
          clear c20
          replace H := Option.bind_eq_some_iff.mp H
          obtain ⟨t148, A210, H⟩ := H
          replace H : ((va_Page.f kj7 a0).bind fun t149 => (if t148 = t149 then ((va_Offset.f kj7 t146).bind fun t150 => (if t150 = 0 then ((va_Canon.f kj7 t146).bind fun t151 => (if t151 = true then ((gunnylaw30_lives.f kj7).bind fun t152 => (some t152)) else (some false))) else (some false))) else (some false))) = some r := H
          have A21 := Aside0.mk A210
          clear A210
          replace H := Option.bind_eq_some_iff.mp H
          obtain ⟨t149, A220, H⟩ := H
          replace H : (if t148 = t149 then ((va_Offset.f kj7 t146).bind fun t150 => (if t150 = 0 then ((va_Canon.f kj7 t146).bind fun t151 => (if t151 = true then ((gunnylaw30_lives.f kj7).bind fun t152 => (some t152)) else (some false))) else (some false))) else (some false)) = some r := H
          have A22 := Aside0.mk A220
          clear A220
          by_cases c23 : t148 = t149
          · rw [if_pos c23] at H
            have c23b0 : (t148 == t149) = true := beq_iff_eq.mpr c23
            have c23b1 : (t148 != t149) = false := bne_eq_false_iff_eq.mpr c23
            clear c23
            replace H := Option.bind_eq_some_iff.mp H
            obtain ⟨t150, A240, H⟩ := H
            replace H : (if t150 = 0 then ((va_Canon.f kj7 t146).bind fun t151 => (if t151 = true then ((gunnylaw30_lives.f kj7).bind fun t152 => (some t152)) else (some false))) else (some false)) = some r := H
            have A24 := Aside0.mk A240
            clear A240
            by_cases c25 : t150 = 0
            · rw [if_pos c25] at H
              have c25b0 : (t150 == 0) = true := beq_iff_eq.mpr c25
              have c25b1 : (t150 != 0) = false := bne_eq_false_iff_eq.mpr c25
              clear c25
              replace H := Option.bind_eq_some_iff.mp H
              obtain ⟨t151, A260, H⟩ := H
              replace H : (if t151 = true then ((gunnylaw30_lives.f kj7).bind fun t152 => (some t152)) else (some false)) = some r := H
              have A26 := Aside0.mk A260
              clear A260
              by_cases c27 : t151 = true
              · subst c27
                have H1 : ((gunnylaw30_lives.f kj7).bind fun t152 => (some t152)) = some r := by rw [if_pos rfl] at H; exact H
                clear H
                have H := H1
                clear H1
                replace H := Option.bind_eq_some_iff.mp H
                obtain ⟨t152, A280, H⟩ := H
                replace H : (some t152) = some r := H
                have A28 := Aside0.mk A280
                clear A280
                obtain rfl := Option.some.inj H
                go_wp2_with (first | ((with_reducible refine gate_callee (f := 13) rfl ?_); refine goesL_ (some 37) rfl rfl Try.func13 (by kernel_rfl) rfl #[.int .u64 a0] rfl (by (try simp only [List.map_toArray, List.map_cons, List.map_nil]); first | done | rfl | (simp only [List.length_drop, List.length_take]; rfl)) ?_; (with_reducible refine (va_Page.calls kj7 a0 t145 _ A17.out).mono ?_); rintro e w' ⟨rfl, ⟨nd, rfl⟩⟩; refine ⟨_, rfl, ?_⟩) | ((with_reducible refine gate_callee (f := 18) rfl ?_); refine goesL_ (some 38) rfl rfl Try.func18 (by kernel_rfl) rfl #[.int .i64 t145] rfl (by (try simp only [List.map_toArray, List.map_cons, List.map_nil]); first | done | rfl | (simp only [List.length_drop, List.length_take]; rfl)) ?_; (with_reducible refine (va_At.calls kj7 t145 t146 _ A18.out).mono ?_); rintro e w' ⟨rfl, ⟨nd, rfl⟩⟩; refine ⟨_, rfl, ?_⟩) | ((with_reducible refine gate_callee (f := 15) rfl ?_); refine goesL_ (some 41) rfl rfl Try.func15 (by kernel_rfl) rfl #[.int .u64 a0] rfl (by (try simp only [List.map_toArray, List.map_cons, List.map_nil]); first | done | rfl | (simp only [List.length_drop, List.length_take]; rfl)) ?_; (with_reducible refine (va_Offset.calls kj7 a0 t147 _ A19.out).mono ?_); rintro e w' ⟨rfl, ⟨nd, rfl⟩⟩; refine ⟨_, rfl, ?_⟩) | (go_at_call 13; (with_reducible refine (va_Page.calls kj7 t146 t148 _ A21.out).mono ?_); rintro e w' ⟨rfl, ⟨nd, rfl⟩⟩) | (go_at_call 13; (with_reducible refine (va_Page.calls kj7 a0 t149 _ A22.out).mono ?_); rintro e w' ⟨rfl, ⟨nd, rfl⟩⟩) | (go_at_call 15; (with_reducible refine (va_Offset.calls kj7 t146 t150 _ A24.out).mono ?_); rintro e w' ⟨rfl, ⟨nd, rfl⟩⟩) | (go_at_call 11; (with_reducible refine (va_Canon.calls kj7 t146 true _ A26.out).mono ?_); rintro e w' ⟨rfl, ⟨nd, rfl⟩⟩) | (go_at_call 7; (with_reducible refine (gunnylaw30_lives.calls kj7  t152 _ A28.out).mono ?_); rintro e w29 ⟨rfl, hb⟩; have n0_ := Aside0.mk (below_step (by repeat (first | (with_reducible first | exact HB.out | apply below_alloc | apply pw_below_drewN | apply below_drew1) | exact HB.out)) hb); clear HB; have HB := n0_; clear n0_; (try clear hb); (try clear hb2); (try clear hk); (try clear hi)))
                go_ret
                exact ⟨by first | rfl | (simp [errW_none, errW_some] <;> rfl) | (simp [*, errW_none, errW_some] <;> rfl), by repeat (first | (with_reducible first | exact HB.out | apply below_alloc | apply pw_below_drewN | apply below_drew1) | exact HB.out)⟩
              · replace c27 := Bool.eq_false_iff.mpr c27
                subst c27
                have H1 : (some false) = some r := by rw [if_neg (show ¬ (false = true) by decide)] at H; exact H
                clear H
                have H := H1
                clear H1
                obtain rfl := Option.some.inj H
                go_wp2_with (first | ((with_reducible refine gate_callee (f := 13) rfl ?_); refine goesL_ (some 37) rfl rfl Try.func13 (by kernel_rfl) rfl #[.int .u64 a0] rfl (by (try simp only [List.map_toArray, List.map_cons, List.map_nil]); first | done | rfl | (simp only [List.length_drop, List.length_take]; rfl)) ?_; (with_reducible refine (va_Page.calls kj7 a0 t145 _ A17.out).mono ?_); rintro e w' ⟨rfl, ⟨nd, rfl⟩⟩; refine ⟨_, rfl, ?_⟩) | ((with_reducible refine gate_callee (f := 18) rfl ?_); refine goesL_ (some 38) rfl rfl Try.func18 (by kernel_rfl) rfl #[.int .i64 t145] rfl (by (try simp only [List.map_toArray, List.map_cons, List.map_nil]); first | done | rfl | (simp only [List.length_drop, List.length_take]; rfl)) ?_; (with_reducible refine (va_At.calls kj7 t145 t146 _ A18.out).mono ?_); rintro e w' ⟨rfl, ⟨nd, rfl⟩⟩; refine ⟨_, rfl, ?_⟩) | ((with_reducible refine gate_callee (f := 15) rfl ?_); refine goesL_ (some 41) rfl rfl Try.func15 (by kernel_rfl) rfl #[.int .u64 a0] rfl (by (try simp only [List.map_toArray, List.map_cons, List.map_nil]); first | done | rfl | (simp only [List.length_drop, List.length_take]; rfl)) ?_; (with_reducible refine (va_Offset.calls kj7 a0 t147 _ A19.out).mono ?_); rintro e w' ⟨rfl, ⟨nd, rfl⟩⟩; refine ⟨_, rfl, ?_⟩) | (go_at_call 13; (with_reducible refine (va_Page.calls kj7 t146 t148 _ A21.out).mono ?_); rintro e w' ⟨rfl, ⟨nd, rfl⟩⟩) | (go_at_call 13; (with_reducible refine (va_Page.calls kj7 a0 t149 _ A22.out).mono ?_); rintro e w' ⟨rfl, ⟨nd, rfl⟩⟩) | (go_at_call 15; (with_reducible refine (va_Offset.calls kj7 t146 t150 _ A24.out).mono ?_); rintro e w' ⟨rfl, ⟨nd, rfl⟩⟩) | (go_at_call 11; (with_reducible refine (va_Canon.calls kj7 t146 false _ A26.out).mono ?_); rintro e w' ⟨rfl, ⟨nd, rfl⟩⟩))
                go_ret
                exact ⟨by first | rfl | (simp [errW_none, errW_some] <;> rfl) | (simp [*, errW_none, errW_some] <;> rfl), by repeat (first | (with_reducible first | exact HB.out | apply below_alloc | apply pw_below_drewN | apply below_drew1) | exact HB.out)⟩
            · rw [if_neg c25] at H
              have c25b0 : (t150 == 0) = false := beq_eq_false_iff_ne.mpr c25
              have c25b1 : (t150 != 0) = true := bne_iff_ne.mpr c25
              obtain rfl := Option.some.inj H
              go_wp2_with (first | ((with_reducible refine gate_callee (f := 13) rfl ?_); refine goesL_ (some 37) rfl rfl Try.func13 (by kernel_rfl) rfl #[.int .u64 a0] rfl (by (try simp only [List.map_toArray, List.map_cons, List.map_nil]); first | done | rfl | (simp only [List.length_drop, List.length_take]; rfl)) ?_; (with_reducible refine (va_Page.calls kj7 a0 t145 _ A17.out).mono ?_); rintro e w' ⟨rfl, ⟨nd, rfl⟩⟩; refine ⟨_, rfl, ?_⟩) | ((with_reducible refine gate_callee (f := 18) rfl ?_); refine goesL_ (some 38) rfl rfl Try.func18 (by kernel_rfl) rfl #[.int .i64 t145] rfl (by (try simp only [List.map_toArray, List.map_cons, List.map_nil]); first | done | rfl | (simp only [List.length_drop, List.length_take]; rfl)) ?_; (with_reducible refine (va_At.calls kj7 t145 t146 _ A18.out).mono ?_); rintro e w' ⟨rfl, ⟨nd, rfl⟩⟩; refine ⟨_, rfl, ?_⟩) | ((with_reducible refine gate_callee (f := 15) rfl ?_); refine goesL_ (some 41) rfl rfl Try.func15 (by kernel_rfl) rfl #[.int .u64 a0] rfl (by (try simp only [List.map_toArray, List.map_cons, List.map_nil]); first | done | rfl | (simp only [List.length_drop, List.length_take]; rfl)) ?_; (with_reducible refine (va_Offset.calls kj7 a0 t147 _ A19.out).mono ?_); rintro e w' ⟨rfl, ⟨nd, rfl⟩⟩; refine ⟨_, rfl, ?_⟩) | (go_at_call 13; (with_reducible refine (va_Page.calls kj7 t146 t148 _ A21.out).mono ?_); rintro e w' ⟨rfl, ⟨nd, rfl⟩⟩) | (go_at_call 13; (with_reducible refine (va_Page.calls kj7 a0 t149 _ A22.out).mono ?_); rintro e w' ⟨rfl, ⟨nd, rfl⟩⟩) | (go_at_call 15; (with_reducible refine (va_Offset.calls kj7 t146 t150 _ A24.out).mono ?_); rintro e w' ⟨rfl, ⟨nd, rfl⟩⟩))
              go_ret
              exact ⟨by first | rfl | (simp [errW_none, errW_some] <;> rfl) | (simp [*, errW_none, errW_some] <;> rfl), by repeat (first | (with_reducible first | exact HB.out | apply below_alloc | apply pw_below_drewN | apply below_drew1) | exact HB.out)⟩
          · rw [if_neg c23] at H
            have c23b0 : (t148 == t149) = false := beq_eq_false_iff_ne.mpr c23
            have c23b1 : (t148 != t149) = true := bne_iff_ne.mpr c23
            obtain rfl := Option.some.inj H
            go_wp2_with (first | ((with_reducible refine gate_callee (f := 13) rfl ?_); refine goesL_ (some 37) rfl rfl Try.func13 (by kernel_rfl) rfl #[.int .u64 a0] rfl (by (try simp only [List.map_toArray, List.map_cons, List.map_nil]); first | done | rfl | (simp only [List.length_drop, List.length_take]; rfl)) ?_; (with_reducible refine (va_Page.calls kj7 a0 t145 _ A17.out).mono ?_); rintro e w' ⟨rfl, ⟨nd, rfl⟩⟩; refine ⟨_, rfl, ?_⟩) | ((with_reducible refine gate_callee (f := 18) rfl ?_); refine goesL_ (some 38) rfl rfl Try.func18 (by kernel_rfl) rfl #[.int .i64 t145] rfl (by (try simp only [List.map_toArray, List.map_cons, List.map_nil]); first | done | rfl | (simp only [List.length_drop, List.length_take]; rfl)) ?_; (with_reducible refine (va_At.calls kj7 t145 t146 _ A18.out).mono ?_); rintro e w' ⟨rfl, ⟨nd, rfl⟩⟩; refine ⟨_, rfl, ?_⟩) | ((with_reducible refine gate_callee (f := 15) rfl ?_); refine goesL_ (some 41) rfl rfl Try.func15 (by kernel_rfl) rfl #[.int .u64 a0] rfl (by (try simp only [List.map_toArray, List.map_cons, List.map_nil]); first | done | rfl | (simp only [List.length_drop, List.length_take]; rfl)) ?_; (with_reducible refine (va_Offset.calls kj7 a0 t147 _ A19.out).mono ?_); rintro e w' ⟨rfl, ⟨nd, rfl⟩⟩; refine ⟨_, rfl, ?_⟩) | (go_at_call 13; (with_reducible refine (va_Page.calls kj7 t146 t148 _ A21.out).mono ?_); rintro e w' ⟨rfl, ⟨nd, rfl⟩⟩) | (go_at_call 13; (with_reducible refine (va_Page.calls kj7 a0 t149 _ A22.out).mono ?_); rintro e w' ⟨rfl, ⟨nd, rfl⟩⟩))
            go_ret
            exact ⟨by first | rfl | (simp [errW_none, errW_some] <;> rfl) | (simp [*, errW_none, errW_some] <;> rfl), by repeat (first | (with_reducible first | exact HB.out | apply below_alloc | apply pw_below_drewN | apply below_drew1) | exact HB.out)⟩
        · rw [if_neg c20] at H
          have c20b0 : ((IntKind.u64.wrap (t146 + (IntKind.u64.wrap (t147)))) == t141) = false := beq_eq_false_iff_ne.mpr c20
          have c20b1 : ((IntKind.u64.wrap (t146 + (IntKind.u64.wrap (t147)))) != t141) = true := bne_iff_ne.mpr c20
          obtain rfl := Option.some.inj H
          go_wp2_with (first | ((with_reducible refine gate_callee (f := 13) rfl ?_); refine goesL_ (some 37) rfl rfl Try.func13 (by kernel_rfl) rfl #[.int .u64 a0] rfl (by (try simp only [List.map_toArray, List.map_cons, List.map_nil]); first | done | rfl | (simp only [List.length_drop, List.length_take]; rfl)) ?_; (with_reducible refine (va_Page.calls kj7 a0 t145 _ A17.out).mono ?_); rintro e w' ⟨rfl, ⟨nd, rfl⟩⟩; refine ⟨_, rfl, ?_⟩) | ((with_reducible refine gate_callee (f := 18) rfl ?_); refine goesL_ (some 38) rfl rfl Try.func18 (by kernel_rfl) rfl #[.int .i64 t145] rfl (by (try simp only [List.map_toArray, List.map_cons, List.map_nil]); first | done | rfl | (simp only [List.length_drop, List.length_take]; rfl)) ?_; (with_reducible refine (va_At.calls kj7 t145 t146 _ A18.out).mono ?_); rintro e w' ⟨rfl, ⟨nd, rfl⟩⟩; refine ⟨_, rfl, ?_⟩) | ((with_reducible refine gate_callee (f := 15) rfl ?_); refine goesL_ (some 41) rfl rfl Try.func15 (by kernel_rfl) rfl #[.int .u64 a0] rfl (by (try simp only [List.map_toArray, List.map_cons, List.map_nil]); first | done | rfl | (simp only [List.length_drop, List.length_take]; rfl)) ?_; (with_reducible refine (va_Offset.calls kj7 a0 t147 _ A19.out).mono ?_); rintro e w' ⟨rfl, ⟨nd, rfl⟩⟩; refine ⟨_, rfl, ?_⟩))
          go_ret
          exact ⟨by first | rfl | (simp [errW_none, errW_some] <;> rfl) | (simp [*, errW_none, errW_some] <;> rfl), by repeat (first | (with_reducible first | exact HB.out | apply below_alloc | apply pw_below_drewN | apply below_drew1) | exact HB.out)⟩

/-- THE ONE PURE STATEMENT of gunnylaw30_VaBack: yours. -/
def gunnylaw30_VaBack.Pure : Prop := ∀ (a0 : Int), (Lit.int .u64 a0).wf = true → ∃ k, gunnylaw30_VaBack.f k a0 = some true
theorem gunnylaw30_VaBack.walk (P : gunnylaw30_VaBack.Pure) (a0 : Int) (w : World) (w0 : (Lit.int .u64 a0).wf = true) :
    Calls Try.prog 5 #[.int .u64 a0] w fun e w' => e = .returned (.bool true) ∧ Below w.heap.size w w' := by
  obtain ⟨k, h⟩ := P a0 w0
  refine (gunnylaw30_VaBack.calls k a0 true w h).mono ?_
  rintro e w' ⟨rfl, hd⟩
  exact ⟨rfl, hd⟩

end Go.Proofs.Ytpdpkjdkafmmhaa.R
