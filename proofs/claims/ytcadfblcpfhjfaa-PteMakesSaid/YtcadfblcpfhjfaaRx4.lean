-- written for this claim by a program (a patched print)
import Derived.Test.YtcadfblcpfhjfaaRx0
import Derived.Test.YtcadfblcpfhjfaaRx1
import Derived.Test.YtcadfblcpfhjfaaRx2
import Derived.Test.YtcadfblcpfhjfaaRx3
namespace Go.Proofs.Ytcadfblcpfhjfaa.R
open Go.RowKit Go.Proofs.YtcadfblcpfhjfaaW.PrintWords Go.Proofs.YtcadfblcpfhjfaaW.PrintLast Go.Proofs.YtcadfblcpfhjfaaW.PrintMore
attribute [local go_sem] max2_int min2_int max_two min_two max_three min_three max_four min_four   -- for this text's walks alone
set_option linter.unusedVariables false
set_option linter.unusedSimpArgs false

/-! ### gunnylaw31_PteMakes: function 3 -/
mutual
def gunnylaw31_PteMakes.j0 : Nat → Int → Int → Int → Bool → Int → Bool → Int → Bool → Bool → Bool → Option (Bool)
  | 0, _, _, _, _, _, _, _, _, _, _ => none
  | k + 1, x0, x1, x5, x6, x7, x8, x9, x10, x11, x12 => (pte_May.f x1).bind fun t156 => (if (t156 != x11) = true then (gunnylaw31_PteMakes.j1 k x0 x1 x5 x6 x7 x8 x9 x10 true) else (if (x6 != x12) = true then (gunnylaw31_PteMakes.j1 k x0 x1 x5 x6 x7 x8 x9 x10 true) else (if x12 = true then (if (x8 != x11) = true then (gunnylaw31_PteMakes.j1 k x0 x1 x5 x6 x7 x8 x9 x10 true) else (if x0 ≥ 0 then (if x0 ≤ 512 then (gunnylaw31_PteMakes.j1 k x0 x1 x5 x6 x7 x8 x9 x10 (x10 != x11)) else (gunnylaw31_PteMakes.j1 k x0 x1 x5 x6 x7 x8 x9 x10 (x10 != false))) else (gunnylaw31_PteMakes.j1 k x0 x1 x5 x6 x7 x8 x9 x10 (x10 != false)))) else (if (x8 != false) = true then (gunnylaw31_PteMakes.j1 k x0 x1 x5 x6 x7 x8 x9 x10 true) else (if x0 ≥ 0 then (if x0 ≤ 512 then (gunnylaw31_PteMakes.j1 k x0 x1 x5 x6 x7 x8 x9 x10 (x10 != x11)) else (gunnylaw31_PteMakes.j1 k x0 x1 x5 x6 x7 x8 x9 x10 (x10 != false))) else (gunnylaw31_PteMakes.j1 k x0 x1 x5 x6 x7 x8 x9 x10 (x10 != false)))))))
def gunnylaw31_PteMakes.j1 : Nat → Int → Int → Int → Bool → Int → Bool → Int → Bool → Bool → Option (Bool)
  | 0, _, _, _, _, _, _, _, _, _ => none
  | k + 1, x0, x1, x5, x6, x7, x8, x9, x10, x67 => if x67 = true then (some false) else (if x6 = true then (if x8 = true then (if x10 = true then (gunnylaw31_PteMakes.j2 k x0 x1 x5 x6 x7 x8 x9 x10 false) else (gunnylaw31_PteMakes.j2 k x0 x1 x5 x6 x7 x8 x9 x10 (x9 != 0))) else (if x7 = 0 then (if x10 = true then (gunnylaw31_PteMakes.j2 k x0 x1 x5 x6 x7 x8 x9 x10 false) else (gunnylaw31_PteMakes.j2 k x0 x1 x5 x6 x7 x8 x9 x10 (x9 != 0))) else (gunnylaw31_PteMakes.j2 k x0 x1 x5 x6 x7 x8 x9 x10 true))) else (if x5 = 0 then (if x8 = true then (if x10 = true then (gunnylaw31_PteMakes.j2 k x0 x1 x5 x6 x7 x8 x9 x10 false) else (gunnylaw31_PteMakes.j2 k x0 x1 x5 x6 x7 x8 x9 x10 (x9 != 0))) else (if x7 = 0 then (if x10 = true then (gunnylaw31_PteMakes.j2 k x0 x1 x5 x6 x7 x8 x9 x10 false) else (gunnylaw31_PteMakes.j2 k x0 x1 x5 x6 x7 x8 x9 x10 (x9 != 0))) else (gunnylaw31_PteMakes.j2 k x0 x1 x5 x6 x7 x8 x9 x10 true))) else (gunnylaw31_PteMakes.j2 k x0 x1 x5 x6 x7 x8 x9 x10 true)))
def gunnylaw31_PteMakes.j2 : Nat → Int → Int → Int → Bool → Int → Bool → Int → Bool → Bool → Option (Bool)
  | 0, _, _, _, _, _, _, _, _, _ => none
  | k + 1, x0, x1, x5, x6, x7, x8, x9, x10, x89 => if x89 = true then (some false) else (if x6 = true then ((gunnyref31_Put.f true false false false 0 x0 false).bind fun t157 => (if x5 = t157 then (if x8 = true then ((gunnyref31_Put.f true true false false x1 x0 false).bind fun t158 => (gunnylaw31_PteMakes.j3 k x0 x1 x9 x10 (x7 != t158))) else (gunnylaw31_PteMakes.j3 k x0 x1 x9 x10 false)) else (gunnylaw31_PteMakes.j3 k x0 x1 x9 x10 true))) else (if x8 = true then ((gunnyref31_Put.f true true false false x1 x0 false).bind fun t159 => (gunnylaw31_PteMakes.j3 k x0 x1 x9 x10 (x7 != t159))) else (gunnylaw31_PteMakes.j3 k x0 x1 x9 x10 false)))
def gunnylaw31_PteMakes.j3 : Nat → Int → Int → Int → Bool → Bool → Option (Bool)
  | 0, _, _, _, _, _ => none
  | k + 1, x0, x1, x9, x10, x108 => if x108 = true then (some false) else (if x10 = true then ((gunnyref31_Put.f false true false false x1 x0 false).bind fun t160 => (if x9 = t160 then ((gunnylaw31_lives.f k).bind fun t161 => (some t161)) else (some false))) else ((gunnylaw31_lives.f k).bind fun t162 => (some t162)))
end
def gunnylaw31_PteMakes.f (k : Nat) (a0 : Int) (a1 : Int) : Option (Bool) := (pte_Down.f k a0).bind fun bt149 => ((pte_Page.f k a0 a1).bind fun bt151 => ((pte_Away.f k a0 a1).bind fun bt153 => ((gunnyref31_May.f a1).bind fun t155 => (if a0 ≥ 0 then (gunnylaw31_PteMakes.j0 k a0 a1 bt149.1 bt149.2 bt151.1 bt151.2 bt153.1 bt153.2 t155 (decide (a0 < 96))) else (gunnylaw31_PteMakes.j0 k a0 a1 bt149.1 bt149.2 bt151.1 bt151.2 bt153.1 bt153.2 t155 false)))))
theorem gunnylaw31_PteMakes.mono_l : ∀ k, (∀ y0 y1 y2 y3 y4 y5 y6 y7 y8 y9, LeO (gunnylaw31_PteMakes.j0 k y0 y1 y2 y3 y4 y5 y6 y7 y8 y9) (gunnylaw31_PteMakes.j0 (k + 1) y0 y1 y2 y3 y4 y5 y6 y7 y8 y9)) ∧ (∀ y0 y1 y2 y3 y4 y5 y6 y7 y8, LeO (gunnylaw31_PteMakes.j1 k y0 y1 y2 y3 y4 y5 y6 y7 y8) (gunnylaw31_PteMakes.j1 (k + 1) y0 y1 y2 y3 y4 y5 y6 y7 y8)) ∧ (∀ y0 y1 y2 y3 y4 y5 y6 y7 y8, LeO (gunnylaw31_PteMakes.j2 k y0 y1 y2 y3 y4 y5 y6 y7 y8) (gunnylaw31_PteMakes.j2 (k + 1) y0 y1 y2 y3 y4 y5 y6 y7 y8)) ∧ (∀ y0 y1 y2 y3 y4, LeO (gunnylaw31_PteMakes.j3 k y0 y1 y2 y3 y4) (gunnylaw31_PteMakes.j3 (k + 1) y0 y1 y2 y3 y4))
  | 0 => ⟨fun _ _ _ _ _ _ _ _ _ _ r h => by simp [gunnylaw31_PteMakes.j0] at h, fun _ _ _ _ _ _ _ _ _ r h => by simp [gunnylaw31_PteMakes.j1] at h, fun _ _ _ _ _ _ _ _ _ r h => by simp [gunnylaw31_PteMakes.j2] at h, fun _ _ _ _ _ r h => by simp [gunnylaw31_PteMakes.j3] at h⟩
  | k + 1 => by
    obtain ⟨ih0, ih1, ih2, ih3⟩ := gunnylaw31_PteMakes.mono_l k
    refine ⟨?_, ?_, ?_, ?_⟩
    · intro y0 y1 y2 y3 y4 y5 y6 y7 y8 y9
      unfold gunnylaw31_PteMakes.j0
      repeat' first
      | (with_reducible exact ih0 _ _ _ _ _ _ _ _ _ _)
      | (with_reducible exact ih1 _ _ _ _ _ _ _ _ _)
      | (with_reducible exact ih2 _ _ _ _ _ _ _ _ _)
      | (with_reducible exact ih3 _ _ _ _ _)
      | (with_reducible exact gunnylaw31_lives.mono _)
      | (with_reducible exact pte_Away.mono _ _ _)
      | (with_reducible exact pte_Down.mono _ _)
      | (with_reducible exact pte_Page.mono _ _ _)
      | (with_reducible exact LeO.refl _)
      | (with_reducible exact LeO.none _)
      | (with_reducible refine LeO.ite ?_ ?_)
      | (with_reducible refine LeO.bind ?_ (fun _ => ?_))
      | exact ih0 _ _ _ _ _ _ _ _ _ _
      | exact ih1 _ _ _ _ _ _ _ _ _
      | exact ih2 _ _ _ _ _ _ _ _ _
      | exact ih3 _ _ _ _ _
      | exact gunnylaw31_lives.mono _
      | exact pte_Away.mono _ _ _
      | exact pte_Down.mono _ _
      | exact pte_Page.mono _ _ _
      | exact LeO.none _
      | refine LeO.ite ?_ ?_
      | refine LeO.bind ?_ (fun _ => ?_)
    · intro y0 y1 y2 y3 y4 y5 y6 y7 y8
      unfold gunnylaw31_PteMakes.j1
      repeat' first
      | (with_reducible exact ih0 _ _ _ _ _ _ _ _ _ _)
      | (with_reducible exact ih1 _ _ _ _ _ _ _ _ _)
      | (with_reducible exact ih2 _ _ _ _ _ _ _ _ _)
      | (with_reducible exact ih3 _ _ _ _ _)
      | (with_reducible exact gunnylaw31_lives.mono _)
      | (with_reducible exact pte_Away.mono _ _ _)
      | (with_reducible exact pte_Down.mono _ _)
      | (with_reducible exact pte_Page.mono _ _ _)
      | (with_reducible exact LeO.refl _)
      | (with_reducible exact LeO.none _)
      | (with_reducible refine LeO.ite ?_ ?_)
      | (with_reducible refine LeO.bind ?_ (fun _ => ?_))
      | exact ih0 _ _ _ _ _ _ _ _ _ _
      | exact ih1 _ _ _ _ _ _ _ _ _
      | exact ih2 _ _ _ _ _ _ _ _ _
      | exact ih3 _ _ _ _ _
      | exact gunnylaw31_lives.mono _
      | exact pte_Away.mono _ _ _
      | exact pte_Down.mono _ _
      | exact pte_Page.mono _ _ _
      | exact LeO.none _
      | refine LeO.ite ?_ ?_
      | refine LeO.bind ?_ (fun _ => ?_)
    · intro y0 y1 y2 y3 y4 y5 y6 y7 y8
      unfold gunnylaw31_PteMakes.j2
      repeat' first
      | (with_reducible exact ih0 _ _ _ _ _ _ _ _ _ _)
      | (with_reducible exact ih1 _ _ _ _ _ _ _ _ _)
      | (with_reducible exact ih2 _ _ _ _ _ _ _ _ _)
      | (with_reducible exact ih3 _ _ _ _ _)
      | (with_reducible exact gunnylaw31_lives.mono _)
      | (with_reducible exact pte_Away.mono _ _ _)
      | (with_reducible exact pte_Down.mono _ _)
      | (with_reducible exact pte_Page.mono _ _ _)
      | (with_reducible exact LeO.refl _)
      | (with_reducible exact LeO.none _)
      | (with_reducible refine LeO.ite ?_ ?_)
      | (with_reducible refine LeO.bind ?_ (fun _ => ?_))
      | exact ih0 _ _ _ _ _ _ _ _ _ _
      | exact ih1 _ _ _ _ _ _ _ _ _
      | exact ih2 _ _ _ _ _ _ _ _ _
      | exact ih3 _ _ _ _ _
      | exact gunnylaw31_lives.mono _
      | exact pte_Away.mono _ _ _
      | exact pte_Down.mono _ _
      | exact pte_Page.mono _ _ _
      | exact LeO.none _
      | refine LeO.ite ?_ ?_
      | refine LeO.bind ?_ (fun _ => ?_)
    · intro y0 y1 y2 y3 y4
      unfold gunnylaw31_PteMakes.j3
      repeat' first
      | (with_reducible exact ih0 _ _ _ _ _ _ _ _ _ _)
      | (with_reducible exact ih1 _ _ _ _ _ _ _ _ _)
      | (with_reducible exact ih2 _ _ _ _ _ _ _ _ _)
      | (with_reducible exact ih3 _ _ _ _ _)
      | (with_reducible exact gunnylaw31_lives.mono _)
      | (with_reducible exact pte_Away.mono _ _ _)
      | (with_reducible exact pte_Down.mono _ _)
      | (with_reducible exact pte_Page.mono _ _ _)
      | (with_reducible exact LeO.refl _)
      | (with_reducible exact LeO.none _)
      | (with_reducible refine LeO.ite ?_ ?_)
      | (with_reducible refine LeO.bind ?_ (fun _ => ?_))
      | exact ih0 _ _ _ _ _ _ _ _ _ _
      | exact ih1 _ _ _ _ _ _ _ _ _
      | exact ih2 _ _ _ _ _ _ _ _ _
      | exact ih3 _ _ _ _ _
      | exact gunnylaw31_lives.mono _
      | exact pte_Away.mono _ _ _
      | exact pte_Down.mono _ _
      | exact pte_Page.mono _ _ _
      | exact LeO.none _
      | refine LeO.ite ?_ ?_
      | refine LeO.bind ?_ (fun _ => ?_)
theorem gunnylaw31_PteMakes.mono : ∀ a0 a1 k, LeO (gunnylaw31_PteMakes.f k a0 a1) (gunnylaw31_PteMakes.f (k + 1) a0 a1) := by
  intro a0 a1 k
  obtain ⟨ih0, ih1, ih2, ih3⟩ := gunnylaw31_PteMakes.mono_l k
  unfold gunnylaw31_PteMakes.f
  repeat' first
      | (with_reducible exact ih0 _ _ _ _ _ _ _ _ _ _)
      | (with_reducible exact ih1 _ _ _ _ _ _ _ _ _)
      | (with_reducible exact ih2 _ _ _ _ _ _ _ _ _)
      | (with_reducible exact ih3 _ _ _ _ _)
      | (with_reducible exact gunnylaw31_lives.mono _)
      | (with_reducible exact pte_Away.mono _ _ _)
      | (with_reducible exact pte_Down.mono _ _)
      | (with_reducible exact pte_Page.mono _ _ _)
      | (with_reducible exact LeO.refl _)
      | (with_reducible exact LeO.none _)
      | (with_reducible refine LeO.ite ?_ ?_)
      | (with_reducible refine LeO.bind ?_ (fun _ => ?_))
      | exact ih0 _ _ _ _ _ _ _ _ _ _
      | exact ih1 _ _ _ _ _ _ _ _ _
      | exact ih2 _ _ _ _ _ _ _ _ _
      | exact ih3 _ _ _ _ _
      | exact gunnylaw31_lives.mono _
      | exact pte_Away.mono _ _ _
      | exact pte_Down.mono _ _
      | exact pte_Page.mono _ _ _
      | exact LeO.none _
      | refine LeO.ite ?_ ?_
      | refine LeO.bind ?_ (fun _ => ?_)
set_option maxHeartbeats 8000000 in
set_option maxRecDepth 100000 in
theorem gunnylaw31_PteMakes.calls (k : Nat) (a0 : Int) (a1 : Int) (r : Bool) (w : World) (h : gunnylaw31_PteMakes.f k a0 a1 = some r) :
    Calls Try.prog 3 #[.int .i64 a0, .int .i64 a1] w fun e w' => e = .returned (.bool r) ∧ Below w.heap.size w w' := by
  have hu29 := Try.underlying29
  have HB := Aside0.mk (Below.refl w.heap.size w)
  have H : ((pte_Down.f k a0).bind fun bt149 => ((pte_Page.f k a0 a1).bind fun bt151 => ((pte_Away.f k a0 a1).bind fun bt153 => ((gunnyref31_May.f a1).bind fun t155 => (if a0 ≥ 0 then (gunnylaw31_PteMakes.j0 k a0 a1 bt149.1 bt149.2 bt151.1 bt151.2 bt153.1 bt153.2 t155 (decide (a0 < 96))) else (gunnylaw31_PteMakes.j0 k a0 a1 bt149.1 bt149.2 bt151.1 bt151.2 bt153.1 bt153.2 t155 false)))))) = some r := h
  clear h
  replace H := Option.bind_eq_some_iff.mp H
  obtain ⟨⟨t149, t150⟩, A30, H⟩ := H
  replace H : ((pte_Page.f k a0 a1).bind fun bt151 => ((pte_Away.f k a0 a1).bind fun bt153 => ((gunnyref31_May.f a1).bind fun t155 => (if a0 ≥ 0 then (gunnylaw31_PteMakes.j0 k a0 a1 t149 t150 bt151.1 bt151.2 bt153.1 bt153.2 t155 (decide (a0 < 96))) else (gunnylaw31_PteMakes.j0 k a0 a1 t149 t150 bt151.1 bt151.2 bt153.1 bt153.2 t155 false))))) = some r := H
  have A3 := Aside0.mk A30
  clear A30
  replace H := Option.bind_eq_some_iff.mp H
  obtain ⟨⟨t151, t152⟩, A40, H⟩ := H
  replace H : ((pte_Away.f k a0 a1).bind fun bt153 => ((gunnyref31_May.f a1).bind fun t155 => (if a0 ≥ 0 then (gunnylaw31_PteMakes.j0 k a0 a1 t149 t150 t151 t152 bt153.1 bt153.2 t155 (decide (a0 < 96))) else (gunnylaw31_PteMakes.j0 k a0 a1 t149 t150 t151 t152 bt153.1 bt153.2 t155 false)))) = some r := H
  have A4 := Aside0.mk A40
  clear A40
  replace H := Option.bind_eq_some_iff.mp H
  obtain ⟨⟨t153, t154⟩, A50, H⟩ := H
  replace H : ((gunnyref31_May.f a1).bind fun t155 => (if a0 ≥ 0 then (gunnylaw31_PteMakes.j0 k a0 a1 t149 t150 t151 t152 t153 t154 t155 (decide (a0 < 96))) else (gunnylaw31_PteMakes.j0 k a0 a1 t149 t150 t151 t152 t153 t154 t155 false))) = some r := H
  have A5 := Aside0.mk A50
  clear A50
  replace H := Option.bind_eq_some_iff.mp H
  obtain ⟨t155, A60, H⟩ := H
  replace H : (if a0 ≥ 0 then (gunnylaw31_PteMakes.j0 k a0 a1 t149 t150 t151 t152 t153 t154 t155 (decide (a0 < 96))) else (gunnylaw31_PteMakes.j0 k a0 a1 t149 t150 t151 t152 t153 t154 t155 false)) = some r := H
  have A6 := Aside0.mk A60
  clear A60
  have HC7 := Aside0.mk H
  clear H
  go_enter Try.func3, Try.ntmps3
  go_upto_region 5 with (first | ((with_reducible refine gate_callee (f := 7) rfl ?_); refine goesL_ (some 15) rfl rfl Try.func7 (by kernel_rfl) rfl #[.int .i64 a0] rfl (by (try simp only [List.map_toArray, List.map_cons, List.map_nil]); first | done | rfl | (simp only [List.length_drop, List.length_take]; rfl)) ?_; (with_reducible refine (pte_Down.calls k a0 t149 t150 _ A3.out).mono ?_); rintro e w8 ⟨rfl, hb⟩; refine ⟨_, rfl, ?_⟩; have n0_ := Aside0.mk (below_step (by repeat (first | (with_reducible first | exact HB.out | apply below_alloc | apply pw_below_drewN | apply below_drew1) | exact HB.out)) hb); clear HB; have HB := n0_; clear n0_; (try clear hb); (try clear hb2); (try clear hk); (try clear hi)) | ((with_reducible refine gate_callee (f := 8) rfl ?_); refine goesL_ (some 21) rfl rfl Try.func8 (by kernel_rfl) rfl #[.int .i64 a0, .int .i64 a1] rfl (by (try simp only [List.map_toArray, List.map_cons, List.map_nil]); first | done | rfl | (simp only [List.length_drop, List.length_take]; rfl)) ?_; (with_reducible refine (pte_Page.calls k a0 a1 t151 t152 _ A4.out).mono ?_); rintro e w9 ⟨rfl, hb⟩; refine ⟨_, rfl, ?_⟩; have n0_ := Aside0.mk (below_step (by repeat (first | (with_reducible first | exact HB.out | apply below_alloc | apply pw_below_drewN | apply below_drew1) | exact HB.out)) hb); clear HB; have HB := n0_; clear n0_; (try clear hb); (try clear hb2); (try clear hk); (try clear hi)) | ((with_reducible refine gate_callee (f := 9) rfl ?_); refine goesL_ (some 27) rfl rfl Try.func9 (by kernel_rfl) rfl #[.int .i64 a0, .int .i64 a1] rfl (by (try simp only [List.map_toArray, List.map_cons, List.map_nil]); first | done | rfl | (simp only [List.length_drop, List.length_take]; rfl)) ?_; (with_reducible refine (pte_Away.calls k a0 a1 t153 t154 _ A5.out).mono ?_); rintro e w10 ⟨rfl, hb⟩; refine ⟨_, rfl, ?_⟩; have n0_ := Aside0.mk (below_step (by repeat (first | (with_reducible first | exact HB.out | apply below_alloc | apply pw_below_drewN | apply below_drew1) | exact HB.out)) hb); clear HB; have HB := n0_; clear n0_; (try clear hb); (try clear hb2); (try clear hk); (try clear hi)) | ((with_reducible refine gate_callee (f := 10) rfl ?_); refine goesL_ (some 31) rfl rfl Try.func10 (by kernel_rfl) rfl #[.int .i64 a1] rfl (by (try simp only [List.map_toArray, List.map_cons, List.map_nil]); first | done | rfl | (simp only [List.length_drop, List.length_take]; rfl)) ?_; (with_reducible refine (gunnyref31_May.calls a1 t155 _ A6.out).mono ?_); rintro e w' ⟨rfl, ⟨nd, rfl⟩⟩; refine ⟨_, rfl, ?_⟩))
  (try simp only [Act.put, List.setIfInBounds_toArray, List.set_cons_zero, List.set_cons_succ])
  go_cut [12] (fun v12 wc => ∃ (kq : Nat) (x12_6 : Bool), v12 = .bool x12_6 ∧ Aside0 (gunnylaw31_PteMakes.j0 kq a0 a1 t149 t150 t151 t152 t153 t154 t155 x12_6 = some r) ∧ Aside0 (kq ≤ k) ∧ Aside0 (Below w.heap.size w wc))
  case first =>
    have H := HC7.out
    clear HC7
    by_cases c11 : a0 ≥ 0
    · rw [if_pos c11] at H
      have c11b0 : decide (0 ≤ a0) = true := decide_eq_true c11
      clear c11
      (first | rw [c11b0] | (simp only [i64_w, i32_w]; rw [c11b0]) | skip)
      have H' := Aside0.mk H
      clear H
      go_wp2
      go_meet
      case rel => exact ⟨_, (decide (a0 < 96)), (by first | rfl | (simp; done) | (simp [*]; done)), H', ⟨by first | omega | exact Nat.le_refl _⟩, ⟨by repeat (first | (with_reducible first | exact HB.out | apply below_alloc | apply pw_below_drewN | apply below_drew1) | exact HB.out)⟩⟩
    · rw [if_neg c11] at H
      have c11b0 : decide (0 ≤ a0) = false := decide_eq_false c11
      clear c11
      (first | rw [c11b0] | (simp only [i64_w, i32_w]; rw [c11b0]) | skip)
      have H' := Aside0.mk H
      clear H
      go_wp2
      go_meet
      case rel => exact ⟨_, (false), (by first | rfl | (simp; done) | (simp [*]; done)), H', ⟨by first | omega | exact Nat.le_refl _⟩, ⟨by repeat (first | (with_reducible first | exact HB.out | apply below_alloc | apply pw_below_drewN | apply below_drew1) | exact HB.out)⟩⟩
  case rest =>
    clear HC7
    try clear c1
    try clear p2
    try clear c3
    try clear c7
    try clear c8
    try clear c9
    try clear c10
    try clear c11
    try clear c11b0
    obtain ⟨kq, x12_6, rfl, HA, HJ6, HB⟩ := hcut
    cases kq with
    | zero => exact absurd HA.out (by simp [gunnylaw31_PteMakes.j0])
    | succ kj6 =>
      have H := HA.out
      clear HA
      simp only [gunnylaw31_PteMakes.j0] at H
      have HC12 := Aside0.mk H
      clear H
      go_upto_region 6 with (fail)
      go_cut [67] (fun v67 wc => ∃ (kq : Nat) (x67_11 : Bool), v67 = .bool x67_11 ∧ Aside0 (gunnylaw31_PteMakes.j1 kq a0 a1 t149 t150 t151 t152 t153 t154 x67_11 = some r) ∧ Aside0 (kq ≤ kj6) ∧ Aside0 (Below w.heap.size w wc))
      case first =>
        have H := HC12.out
        clear HC12
        replace H := Option.bind_eq_some_iff.mp H
        obtain ⟨t156, A130, H⟩ := H
        replace H : (if (t156 != t155) = true then (gunnylaw31_PteMakes.j1 kj6 a0 a1 t149 t150 t151 t152 t153 t154 true) else (if (t150 != x12_6) = true then (gunnylaw31_PteMakes.j1 kj6 a0 a1 t149 t150 t151 t152 t153 t154 true) else (if x12_6 = true then (if (t152 != t155) = true then (gunnylaw31_PteMakes.j1 kj6 a0 a1 t149 t150 t151 t152 t153 t154 true) else (if a0 ≥ 0 then (if a0 ≤ 512 then (gunnylaw31_PteMakes.j1 kj6 a0 a1 t149 t150 t151 t152 t153 t154 (t154 != t155)) else (gunnylaw31_PteMakes.j1 kj6 a0 a1 t149 t150 t151 t152 t153 t154 (t154 != false))) else (gunnylaw31_PteMakes.j1 kj6 a0 a1 t149 t150 t151 t152 t153 t154 (t154 != false)))) else (if (t152 != false) = true then (gunnylaw31_PteMakes.j1 kj6 a0 a1 t149 t150 t151 t152 t153 t154 true) else (if a0 ≥ 0 then (if a0 ≤ 512 then (gunnylaw31_PteMakes.j1 kj6 a0 a1 t149 t150 t151 t152 t153 t154 (t154 != t155)) else (gunnylaw31_PteMakes.j1 kj6 a0 a1 t149 t150 t151 t152 t153 t154 (t154 != false))) else (gunnylaw31_PteMakes.j1 kj6 a0 a1 t149 t150 t151 t152 t153 t154 (t154 != false))))))) = some r := H
        have A13 := Aside0.mk A130
        clear A130
        by_cases c14 : (t156 != t155) = true
        · rw [if_pos c14] at H
          have c14b0 : (t156 != t155) = true := c14
          (try (have c14b1 : decide (t156 = t155) = false := by simpa using c14))
          (try (have c14b2 : (t156 == t155) = false := by simpa using c14))
          (try (have c14b3 : ¬ (t156 = t155) := by simpa using c14))
          clear c14
          (first | rw [c14b0] | (simp only [i64_w, i32_w]; rw [c14b0]) | skip)
          have H' := Aside0.mk H
          clear H
          go_wp2_with (first | ((with_reducible refine gate_callee (f := 11) rfl ?_); refine goesL_ (some 39) rfl rfl Try.func11 (by kernel_rfl) rfl #[.int .i64 a1] rfl (by (try simp only [List.map_toArray, List.map_cons, List.map_nil]); first | done | rfl | (simp only [List.length_drop, List.length_take]; rfl)) ?_; (with_reducible refine (pte_May.calls a1 t156 _ A13.out).mono ?_); rintro e w' ⟨rfl, ⟨nd, rfl⟩⟩; refine ⟨_, rfl, ?_⟩))
          go_meet
          case rel => exact ⟨_, (true), (by first | rfl | (simp; done) | (simp [*]; done)), H', ⟨by have := HJ6.out; first | omega | exact Nat.le_refl _⟩, ⟨by repeat (first | (with_reducible first | exact HB.out | apply below_alloc | apply pw_below_drewN | apply below_drew1) | exact HB.out)⟩⟩
        · rw [if_neg c14] at H
          have c14b0 : (t156 != t155) = false := by simpa using c14
          (try (have c14b1 : decide (t156 = t155) = true := by simpa using c14))
          (try (have c14b2 : (t156 == t155) = true := by simpa using c14))
          clear c14
          (first | rw [c14b0] | (simp only [i64_w, i32_w]; rw [c14b0]) | skip)
          by_cases c15 : (t150 != x12_6) = true
          · rw [if_pos c15] at H
            have c15b0 : (t150 != x12_6) = true := c15
            (try (have c15b1 : decide (t150 = x12_6) = false := by simpa using c15))
            (try (have c15b2 : (t150 == x12_6) = false := by simpa using c15))
            (try (have c15b3 : ¬ (t150 = x12_6) := by simpa using c15))
            clear c15
            have H' := Aside0.mk H
            clear H
            go_wp2_with (first | ((with_reducible refine gate_callee (f := 11) rfl ?_); refine goesL_ (some 39) rfl rfl Try.func11 (by kernel_rfl) rfl #[.int .i64 a1] rfl (by (try simp only [List.map_toArray, List.map_cons, List.map_nil]); first | done | rfl | (simp only [List.length_drop, List.length_take]; rfl)) ?_; (with_reducible refine (pte_May.calls a1 t156 _ A13.out).mono ?_); rintro e w' ⟨rfl, ⟨nd, rfl⟩⟩; refine ⟨_, rfl, ?_⟩))
            go_meet
            case rel => exact ⟨_, (true), (by first | rfl | (simp; done) | (simp [*]; done)), H', ⟨by have := HJ6.out; first | omega | exact Nat.le_refl _⟩, ⟨by repeat (first | (with_reducible first | exact HB.out | apply below_alloc | apply pw_below_drewN | apply below_drew1) | exact HB.out)⟩⟩
          · rw [if_neg c15] at H
            have c15b0 : (t150 != x12_6) = false := by simpa using c15
            (try (have c15b1 : decide (t150 = x12_6) = true := by simpa using c15))
            (try (have c15b2 : (t150 == x12_6) = true := by simpa using c15))
            clear c15
            by_cases c16 : x12_6 = true
            · subst c16
              have H1 : (if (t152 != t155) = true then (gunnylaw31_PteMakes.j1 kj6 a0 a1 t149 t150 t151 t152 t153 t154 true) else (if a0 ≥ 0 then (if a0 ≤ 512 then (gunnylaw31_PteMakes.j1 kj6 a0 a1 t149 t150 t151 t152 t153 t154 (t154 != t155)) else (gunnylaw31_PteMakes.j1 kj6 a0 a1 t149 t150 t151 t152 t153 t154 (t154 != false))) else (gunnylaw31_PteMakes.j1 kj6 a0 a1 t149 t150 t151 t152 t153 t154 (t154 != false)))) = some r := by rw [if_pos rfl] at H; exact H
              clear H
              have H := H1
              clear H1
              by_cases c17 : (t152 != t155) = true
              · rw [if_pos c17] at H
                have c17b0 : (t152 != t155) = true := c17
                (try (have c17b1 : decide (t152 = t155) = false := by simpa using c17))
                (try (have c17b2 : (t152 == t155) = false := by simpa using c17))
                (try (have c17b3 : ¬ (t152 = t155) := by simpa using c17))
                clear c17
                have H' := Aside0.mk H
                clear H
                go_wp2_with (first | ((with_reducible refine gate_callee (f := 11) rfl ?_); refine goesL_ (some 39) rfl rfl Try.func11 (by kernel_rfl) rfl #[.int .i64 a1] rfl (by (try simp only [List.map_toArray, List.map_cons, List.map_nil]); first | done | rfl | (simp only [List.length_drop, List.length_take]; rfl)) ?_; (with_reducible refine (pte_May.calls a1 t156 _ A13.out).mono ?_); rintro e w' ⟨rfl, ⟨nd, rfl⟩⟩; refine ⟨_, rfl, ?_⟩))
                go_meet
                case rel => exact ⟨_, (true), (by first | rfl | (simp; done) | (simp [*]; done)), H', ⟨by have := HJ6.out; first | omega | exact Nat.le_refl _⟩, ⟨by repeat (first | (with_reducible first | exact HB.out | apply below_alloc | apply pw_below_drewN | apply below_drew1) | exact HB.out)⟩⟩
              · rw [if_neg c17] at H
                have c17b0 : (t152 != t155) = false := by simpa using c17
                (try (have c17b1 : decide (t152 = t155) = true := by simpa using c17))
                (try (have c17b2 : (t152 == t155) = true := by simpa using c17))
                clear c17
                by_cases c18 : a0 ≥ 0
                · rw [if_pos c18] at H
                  have c18b0 : decide (0 ≤ a0) = true := decide_eq_true c18
                  clear c18
                  by_cases c19 : a0 ≤ 512
                  · rw [if_pos c19] at H
                    have c19b0 : decide (a0 ≤ 512) = true := decide_eq_true c19
                    clear c19
                    have H' := Aside0.mk H
                    clear H
                    go_wp2_with (first | ((with_reducible refine gate_callee (f := 11) rfl ?_); refine goesL_ (some 39) rfl rfl Try.func11 (by kernel_rfl) rfl #[.int .i64 a1] rfl (by (try simp only [List.map_toArray, List.map_cons, List.map_nil]); first | done | rfl | (simp only [List.length_drop, List.length_take]; rfl)) ?_; (with_reducible refine (pte_May.calls a1 t156 _ A13.out).mono ?_); rintro e w' ⟨rfl, ⟨nd, rfl⟩⟩; refine ⟨_, rfl, ?_⟩))
                    go_meet
                    case rel => exact ⟨_, ((t154 != t155)), (by first | rfl | (simp; done) | (simp [*]; done)), H', ⟨by have := HJ6.out; first | omega | exact Nat.le_refl _⟩, ⟨by repeat (first | (with_reducible first | exact HB.out | apply below_alloc | apply pw_below_drewN | apply below_drew1) | exact HB.out)⟩⟩
                  · rw [if_neg c19] at H
                    have c19b0 : decide (a0 ≤ 512) = false := decide_eq_false c19
                    clear c19
                    have H' := Aside0.mk H
                    clear H
                    go_wp2_with (first | ((with_reducible refine gate_callee (f := 11) rfl ?_); refine goesL_ (some 39) rfl rfl Try.func11 (by kernel_rfl) rfl #[.int .i64 a1] rfl (by (try simp only [List.map_toArray, List.map_cons, List.map_nil]); first | done | rfl | (simp only [List.length_drop, List.length_take]; rfl)) ?_; (with_reducible refine (pte_May.calls a1 t156 _ A13.out).mono ?_); rintro e w' ⟨rfl, ⟨nd, rfl⟩⟩; refine ⟨_, rfl, ?_⟩))
                    go_meet
                    case rel => exact ⟨_, ((t154 != false)), (by first | rfl | (simp; done) | (simp [*]; done)), H', ⟨by have := HJ6.out; first | omega | exact Nat.le_refl _⟩, ⟨by repeat (first | (with_reducible first | exact HB.out | apply below_alloc | apply pw_below_drewN | apply below_drew1) | exact HB.out)⟩⟩
                · rw [if_neg c18] at H
                  have c18b0 : decide (0 ≤ a0) = false := decide_eq_false c18
                  clear c18
                  have H' := Aside0.mk H
                  clear H
                  go_wp2_with (first | ((with_reducible refine gate_callee (f := 11) rfl ?_); refine goesL_ (some 39) rfl rfl Try.func11 (by kernel_rfl) rfl #[.int .i64 a1] rfl (by (try simp only [List.map_toArray, List.map_cons, List.map_nil]); first | done | rfl | (simp only [List.length_drop, List.length_take]; rfl)) ?_; (with_reducible refine (pte_May.calls a1 t156 _ A13.out).mono ?_); rintro e w' ⟨rfl, ⟨nd, rfl⟩⟩; refine ⟨_, rfl, ?_⟩))
                  go_meet
                  case rel => exact ⟨_, ((t154 != false)), (by first | rfl | (simp; done) | (simp [*]; done)), H', ⟨by have := HJ6.out; first | omega | exact Nat.le_refl _⟩, ⟨by repeat (first | (with_reducible first | exact HB.out | apply below_alloc | apply pw_below_drewN | apply below_drew1) | exact HB.out)⟩⟩
            · replace c16 := Bool.eq_false_iff.mpr c16
              subst c16
              have H1 : (if (t152 != false) = true then (gunnylaw31_PteMakes.j1 kj6 a0 a1 t149 t150 t151 t152 t153 t154 true) else (if a0 ≥ 0 then (if a0 ≤ 512 then (gunnylaw31_PteMakes.j1 kj6 a0 a1 t149 t150 t151 t152 t153 t154 (t154 != t155)) else (gunnylaw31_PteMakes.j1 kj6 a0 a1 t149 t150 t151 t152 t153 t154 (t154 != false))) else (gunnylaw31_PteMakes.j1 kj6 a0 a1 t149 t150 t151 t152 t153 t154 (t154 != false)))) = some r := by rw [if_neg (show ¬ (false = true) by decide)] at H; exact H
              clear H
              have H := H1
              clear H1
              by_cases c20 : (t152 != false) = true
              · rw [if_pos c20] at H
                have c20b0 : (t152 != false) = true := c20
                (try (have c20b1 : decide (t152 = false) = false := by simpa using c20))
                (try (have c20b2 : (t152 == false) = false := by simpa using c20))
                (try (have c20b3 : ¬ (t152 = false) := by simpa using c20))
                clear c20
                have ez_c20 : t152 = true := by simpa using c20b0
                subst ez_c20
                have H' := Aside0.mk H
                clear H
                go_wp2_with (first | ((with_reducible refine gate_callee (f := 11) rfl ?_); refine goesL_ (some 39) rfl rfl Try.func11 (by kernel_rfl) rfl #[.int .i64 a1] rfl (by (try simp only [List.map_toArray, List.map_cons, List.map_nil]); first | done | rfl | (simp only [List.length_drop, List.length_take]; rfl)) ?_; (with_reducible refine (pte_May.calls a1 t156 _ A13.out).mono ?_); rintro e w' ⟨rfl, ⟨nd, rfl⟩⟩; refine ⟨_, rfl, ?_⟩))
                go_meet
                case rel => exact ⟨_, (true), (by first | rfl | (simp; done) | (simp [*]; done)), H', ⟨by have := HJ6.out; first | omega | exact Nat.le_refl _⟩, ⟨by repeat (first | (with_reducible first | exact HB.out | apply below_alloc | apply pw_below_drewN | apply below_drew1) | exact HB.out)⟩⟩
              · rw [if_neg c20] at H
                have c20b0 : (t152 != false) = false := by simpa using c20
                (try (have c20b1 : decide (t152 = false) = true := by simpa using c20))
                (try (have c20b2 : (t152 == false) = true := by simpa using c20))
                clear c20
                by_cases c21 : a0 ≥ 0
                · rw [if_pos c21] at H
                  have c21b0 : decide (0 ≤ a0) = true := decide_eq_true c21
                  clear c21
                  by_cases c22 : a0 ≤ 512
                  · rw [if_pos c22] at H
                    have c22b0 : decide (a0 ≤ 512) = true := decide_eq_true c22
                    clear c22
                    have H' := Aside0.mk H
                    clear H
                    go_wp2_with (first | ((with_reducible refine gate_callee (f := 11) rfl ?_); refine goesL_ (some 39) rfl rfl Try.func11 (by kernel_rfl) rfl #[.int .i64 a1] rfl (by (try simp only [List.map_toArray, List.map_cons, List.map_nil]); first | done | rfl | (simp only [List.length_drop, List.length_take]; rfl)) ?_; (with_reducible refine (pte_May.calls a1 t156 _ A13.out).mono ?_); rintro e w' ⟨rfl, ⟨nd, rfl⟩⟩; refine ⟨_, rfl, ?_⟩))
                    go_meet
                    case rel => exact ⟨_, ((t154 != t155)), (by first | rfl | (simp; done) | (simp [*]; done)), H', ⟨by have := HJ6.out; first | omega | exact Nat.le_refl _⟩, ⟨by repeat (first | (with_reducible first | exact HB.out | apply below_alloc | apply pw_below_drewN | apply below_drew1) | exact HB.out)⟩⟩
                  · rw [if_neg c22] at H
                    have c22b0 : decide (a0 ≤ 512) = false := decide_eq_false c22
                    clear c22
                    have H' := Aside0.mk H
                    clear H
                    go_wp2_with (first | ((with_reducible refine gate_callee (f := 11) rfl ?_); refine goesL_ (some 39) rfl rfl Try.func11 (by kernel_rfl) rfl #[.int .i64 a1] rfl (by (try simp only [List.map_toArray, List.map_cons, List.map_nil]); first | done | rfl | (simp only [List.length_drop, List.length_take]; rfl)) ?_; (with_reducible refine (pte_May.calls a1 t156 _ A13.out).mono ?_); rintro e w' ⟨rfl, ⟨nd, rfl⟩⟩; refine ⟨_, rfl, ?_⟩))
                    go_meet
                    case rel => exact ⟨_, ((t154 != false)), (by first | rfl | (simp; done) | (simp [*]; done)), H', ⟨by have := HJ6.out; first | omega | exact Nat.le_refl _⟩, ⟨by repeat (first | (with_reducible first | exact HB.out | apply below_alloc | apply pw_below_drewN | apply below_drew1) | exact HB.out)⟩⟩
                · rw [if_neg c21] at H
                  have c21b0 : decide (0 ≤ a0) = false := decide_eq_false c21
                  clear c21
                  have H' := Aside0.mk H
                  clear H
                  go_wp2_with (first | ((with_reducible refine gate_callee (f := 11) rfl ?_); refine goesL_ (some 39) rfl rfl Try.func11 (by kernel_rfl) rfl #[.int .i64 a1] rfl (by (try simp only [List.map_toArray, List.map_cons, List.map_nil]); first | done | rfl | (simp only [List.length_drop, List.length_take]; rfl)) ?_; (with_reducible refine (pte_May.calls a1 t156 _ A13.out).mono ?_); rintro e w' ⟨rfl, ⟨nd, rfl⟩⟩; refine ⟨_, rfl, ?_⟩))
                  go_meet
                  case rel => exact ⟨_, ((t154 != false)), (by first | rfl | (simp; done) | (simp [*]; done)), H', ⟨by have := HJ6.out; first | omega | exact Nat.le_refl _⟩, ⟨by repeat (first | (with_reducible first | exact HB.out | apply below_alloc | apply pw_below_drewN | apply below_drew1) | exact HB.out)⟩⟩
      case rest =>
        clear HC12
        try clear c1
        try clear c2
        try clear p2
        try clear c3
        try clear c7
        try clear c8
        try clear c9
        try clear c10
        try clear c11
        try clear c11b0
        try clear c14
        try clear c14b0
        try clear c14b1
        try clear c14b2
        try clear c15
        try clear c15b0
        try clear c15b1
        try clear c15b2
        try clear c16
        try clear c17
        try clear c17b0
        try clear c17b1
        try clear c17b2
        try clear c18
        try clear c18b0
        try clear c19
        try clear c19b0
        try clear c20
        try clear c20b0
        try clear c20b1
        try clear c20b2
        try clear c21
        try clear c21b0
        try clear c22
        try clear c22b0
        try clear p2
        obtain ⟨kq, x67_11, rfl, HA, HJ11, HB⟩ := hcut
        cases kq with
        | zero => exact absurd HA.out (by simp [gunnylaw31_PteMakes.j1])
        | succ kj11 =>
          have H := HA.out
          clear HA
          simp only [gunnylaw31_PteMakes.j1] at H
          by_cases c23 : x67_11 = true
          · subst c23
            have H1 : (some false) = some r := by rw [if_pos rfl] at H; exact H
            clear H
            have H := H1
            clear H1
            obtain rfl := Option.some.inj H
            go_wp2
            go_ret
            exact ⟨by first | rfl | (simp [errW_none, errW_some] <;> rfl) | (simp [*, errW_none, errW_some] <;> rfl), by repeat (first | (with_reducible first | exact HB.out | apply below_alloc | apply pw_below_drewN | apply below_drew1) | exact HB.out)⟩
          · replace c23 := Bool.eq_false_iff.mpr c23
            subst c23
            have H1 : (if t150 = true then (if t152 = true then (if t154 = true then (gunnylaw31_PteMakes.j2 kj11 a0 a1 t149 t150 t151 t152 t153 t154 false) else (gunnylaw31_PteMakes.j2 kj11 a0 a1 t149 t150 t151 t152 t153 t154 (t153 != 0))) else (if t151 = 0 then (if t154 = true then (gunnylaw31_PteMakes.j2 kj11 a0 a1 t149 t150 t151 t152 t153 t154 false) else (gunnylaw31_PteMakes.j2 kj11 a0 a1 t149 t150 t151 t152 t153 t154 (t153 != 0))) else (gunnylaw31_PteMakes.j2 kj11 a0 a1 t149 t150 t151 t152 t153 t154 true))) else (if t149 = 0 then (if t152 = true then (if t154 = true then (gunnylaw31_PteMakes.j2 kj11 a0 a1 t149 t150 t151 t152 t153 t154 false) else (gunnylaw31_PteMakes.j2 kj11 a0 a1 t149 t150 t151 t152 t153 t154 (t153 != 0))) else (if t151 = 0 then (if t154 = true then (gunnylaw31_PteMakes.j2 kj11 a0 a1 t149 t150 t151 t152 t153 t154 false) else (gunnylaw31_PteMakes.j2 kj11 a0 a1 t149 t150 t151 t152 t153 t154 (t153 != 0))) else (gunnylaw31_PteMakes.j2 kj11 a0 a1 t149 t150 t151 t152 t153 t154 true))) else (gunnylaw31_PteMakes.j2 kj11 a0 a1 t149 t150 t151 t152 t153 t154 true))) = some r := by rw [if_neg (show ¬ (false = true) by decide)] at H; exact H
            clear H
            have H := H1
            clear H1
            have HC24 := Aside0.mk H
            clear H
            go_upto_region 8 with (fail)
            go_cut [89] (fun v89 wc => ∃ (kq : Nat) (x89_23 : Bool), v89 = .bool x89_23 ∧ Aside0 (gunnylaw31_PteMakes.j2 kq a0 a1 t149 t150 t151 t152 t153 t154 x89_23 = some r) ∧ Aside0 (kq ≤ kj11) ∧ Aside0 (Below w.heap.size w wc))
            case first =>
              have H := HC24.out
              clear HC24
              by_cases c25 : t150 = true
              · subst c25
                have H1 : (if t152 = true then (if t154 = true then (gunnylaw31_PteMakes.j2 kj11 a0 a1 t149 true t151 t152 t153 t154 false) else (gunnylaw31_PteMakes.j2 kj11 a0 a1 t149 true t151 t152 t153 t154 (t153 != 0))) else (if t151 = 0 then (if t154 = true then (gunnylaw31_PteMakes.j2 kj11 a0 a1 t149 true t151 t152 t153 t154 false) else (gunnylaw31_PteMakes.j2 kj11 a0 a1 t149 true t151 t152 t153 t154 (t153 != 0))) else (gunnylaw31_PteMakes.j2 kj11 a0 a1 t149 true t151 t152 t153 t154 true))) = some r := by rw [if_pos rfl] at H; exact H
                clear H
                have H := H1
                clear H1
                by_cases c26 : t152 = true
                · subst c26
                  have H1 : (if t154 = true then (gunnylaw31_PteMakes.j2 kj11 a0 a1 t149 true t151 true t153 t154 false) else (gunnylaw31_PteMakes.j2 kj11 a0 a1 t149 true t151 true t153 t154 (t153 != 0))) = some r := by rw [if_pos rfl] at H; exact H
                  clear H
                  have H := H1
                  clear H1
                  by_cases c27 : t154 = true
                  · subst c27
                    have H1 : (gunnylaw31_PteMakes.j2 kj11 a0 a1 t149 true t151 true t153 true false) = some r := by rw [if_pos rfl] at H; exact H
                    clear H
                    have H := H1
                    clear H1
                    have H' := Aside0.mk H
                    clear H
                    go_wp2
                    go_meet
                    case rel => exact ⟨_, (false), (by first | rfl | (simp; done) | (simp [*]; done)), H', ⟨by have := HJ6.out; have := HJ11.out; first | omega | exact Nat.le_refl _⟩, ⟨by repeat (first | (with_reducible first | exact HB.out | apply below_alloc | apply pw_below_drewN | apply below_drew1) | exact HB.out)⟩⟩
                  · replace c27 := Bool.eq_false_iff.mpr c27
                    subst c27
                    have H1 : (gunnylaw31_PteMakes.j2 kj11 a0 a1 t149 true t151 true t153 false (t153 != 0)) = some r := by rw [if_neg (show ¬ (false = true) by decide)] at H; exact H
                    clear H
                    have H := H1
                    clear H1
                    have H' := Aside0.mk H
                    clear H
                    go_wp2
                    go_meet
                    case rel => exact ⟨_, ((t153 != 0)), (by first | rfl | (simp; done) | (simp [*]; done)), H', ⟨by have := HJ6.out; have := HJ11.out; first | omega | exact Nat.le_refl _⟩, ⟨by repeat (first | (with_reducible first | exact HB.out | apply below_alloc | apply pw_below_drewN | apply below_drew1) | exact HB.out)⟩⟩
                · replace c26 := Bool.eq_false_iff.mpr c26
                  subst c26
                  have H1 : (if t151 = 0 then (if t154 = true then (gunnylaw31_PteMakes.j2 kj11 a0 a1 t149 true t151 false t153 t154 false) else (gunnylaw31_PteMakes.j2 kj11 a0 a1 t149 true t151 false t153 t154 (t153 != 0))) else (gunnylaw31_PteMakes.j2 kj11 a0 a1 t149 true t151 false t153 t154 true)) = some r := by rw [if_neg (show ¬ (false = true) by decide)] at H; exact H
                  clear H
                  have H := H1
                  clear H1
                  by_cases c28 : t151 = 0
                  · rw [if_pos c28] at H
                    have c28b0 : (t151 == 0) = true := beq_iff_eq.mpr c28
                    have c28b1 : (t151 != 0) = false := bne_eq_false_iff_eq.mpr c28
                    clear c28
                    (first | rw [c28b0] | (simp only [i64_w, i32_w]; rw [c28b0]) | skip)
                    by_cases c29 : t154 = true
                    · subst c29
                      have H1 : (gunnylaw31_PteMakes.j2 kj11 a0 a1 t149 true t151 false t153 true false) = some r := by rw [if_pos rfl] at H; exact H
                      clear H
                      have H := H1
                      clear H1
                      have H' := Aside0.mk H
                      clear H
                      go_wp2
                      go_meet
                      case rel => exact ⟨_, (false), (by first | rfl | (simp; done) | (simp [*]; done)), H', ⟨by have := HJ6.out; have := HJ11.out; first | omega | exact Nat.le_refl _⟩, ⟨by repeat (first | (with_reducible first | exact HB.out | apply below_alloc | apply pw_below_drewN | apply below_drew1) | exact HB.out)⟩⟩
                    · replace c29 := Bool.eq_false_iff.mpr c29
                      subst c29
                      have H1 : (gunnylaw31_PteMakes.j2 kj11 a0 a1 t149 true t151 false t153 false (t153 != 0)) = some r := by rw [if_neg (show ¬ (false = true) by decide)] at H; exact H
                      clear H
                      have H := H1
                      clear H1
                      have H' := Aside0.mk H
                      clear H
                      go_wp2
                      go_meet
                      case rel => exact ⟨_, ((t153 != 0)), (by first | rfl | (simp; done) | (simp [*]; done)), H', ⟨by have := HJ6.out; have := HJ11.out; first | omega | exact Nat.le_refl _⟩, ⟨by repeat (first | (with_reducible first | exact HB.out | apply below_alloc | apply pw_below_drewN | apply below_drew1) | exact HB.out)⟩⟩
                  · rw [if_neg c28] at H
                    have c28b0 : (t151 == 0) = false := beq_eq_false_iff_ne.mpr c28
                    have c28b1 : (t151 != 0) = true := bne_iff_ne.mpr c28
                    (first | rw [c28b0] | (simp only [i64_w, i32_w]; rw [c28b0]) | skip)
                    have H' := Aside0.mk H
                    clear H
                    go_wp2
                    go_meet
                    case rel => exact ⟨_, (true), (by first | rfl | (simp; done) | (simp [*]; done)), H', ⟨by have := HJ6.out; have := HJ11.out; first | omega | exact Nat.le_refl _⟩, ⟨by repeat (first | (with_reducible first | exact HB.out | apply below_alloc | apply pw_below_drewN | apply below_drew1) | exact HB.out)⟩⟩
              · replace c25 := Bool.eq_false_iff.mpr c25
                subst c25
                have H1 : (if t149 = 0 then (if t152 = true then (if t154 = true then (gunnylaw31_PteMakes.j2 kj11 a0 a1 t149 false t151 t152 t153 t154 false) else (gunnylaw31_PteMakes.j2 kj11 a0 a1 t149 false t151 t152 t153 t154 (t153 != 0))) else (if t151 = 0 then (if t154 = true then (gunnylaw31_PteMakes.j2 kj11 a0 a1 t149 false t151 t152 t153 t154 false) else (gunnylaw31_PteMakes.j2 kj11 a0 a1 t149 false t151 t152 t153 t154 (t153 != 0))) else (gunnylaw31_PteMakes.j2 kj11 a0 a1 t149 false t151 t152 t153 t154 true))) else (gunnylaw31_PteMakes.j2 kj11 a0 a1 t149 false t151 t152 t153 t154 true)) = some r := by rw [if_neg (show ¬ (false = true) by decide)] at H; exact H
                clear H
                have H := H1
                clear H1
                by_cases c30 : t149 = 0
                · rw [if_pos c30] at H
                  have c30b0 : (t149 == 0) = true := beq_iff_eq.mpr c30
                  have c30b1 : (t149 != 0) = false := bne_eq_false_iff_eq.mpr c30
                  clear c30
                  by_cases c31 : t152 = true
                  · subst c31
                    have H1 : (if t154 = true then (gunnylaw31_PteMakes.j2 kj11 a0 a1 t149 false t151 true t153 t154 false) else (gunnylaw31_PteMakes.j2 kj11 a0 a1 t149 false t151 true t153 t154 (t153 != 0))) = some r := by rw [if_pos rfl] at H; exact H
                    clear H
                    have H := H1
                    clear H1
                    by_cases c32 : t154 = true
                    · subst c32
                      have H1 : (gunnylaw31_PteMakes.j2 kj11 a0 a1 t149 false t151 true t153 true false) = some r := by rw [if_pos rfl] at H; exact H
                      clear H
                      have H := H1
                      clear H1
                      have H' := Aside0.mk H
                      clear H
                      go_wp2
                      go_meet
                      case rel => exact ⟨_, (false), (by first | rfl | (simp; done) | (simp [*]; done)), H', ⟨by have := HJ6.out; have := HJ11.out; first | omega | exact Nat.le_refl _⟩, ⟨by repeat (first | (with_reducible first | exact HB.out | apply below_alloc | apply pw_below_drewN | apply below_drew1) | exact HB.out)⟩⟩
                    · replace c32 := Bool.eq_false_iff.mpr c32
                      subst c32
                      have H1 : (gunnylaw31_PteMakes.j2 kj11 a0 a1 t149 false t151 true t153 false (t153 != 0)) = some r := by rw [if_neg (show ¬ (false = true) by decide)] at H; exact H
                      clear H
                      have H := H1
                      clear H1
                      have H' := Aside0.mk H
                      clear H
                      go_wp2
                      go_meet
                      case rel => exact ⟨_, ((t153 != 0)), (by first | rfl | (simp; done) | (simp [*]; done)), H', ⟨by have := HJ6.out; have := HJ11.out; first | omega | exact Nat.le_refl _⟩, ⟨by repeat (first | (with_reducible first | exact HB.out | apply below_alloc | apply pw_below_drewN | apply below_drew1) | exact HB.out)⟩⟩
                  · replace c31 := Bool.eq_false_iff.mpr c31
                    subst c31
                    have H1 : (if t151 = 0 then (if t154 = true then (gunnylaw31_PteMakes.j2 kj11 a0 a1 t149 false t151 false t153 t154 false) else (gunnylaw31_PteMakes.j2 kj11 a0 a1 t149 false t151 false t153 t154 (t153 != 0))) else (gunnylaw31_PteMakes.j2 kj11 a0 a1 t149 false t151 false t153 t154 true)) = some r := by rw [if_neg (show ¬ (false = true) by decide)] at H; exact H
                    clear H
                    have H := H1
                    clear H1
                    by_cases c33 : t151 = 0
                    · rw [if_pos c33] at H
                      have c33b0 : (t151 == 0) = true := beq_iff_eq.mpr c33
                      have c33b1 : (t151 != 0) = false := bne_eq_false_iff_eq.mpr c33
                      clear c33
                      by_cases c34 : t154 = true
                      · subst c34
                        have H1 : (gunnylaw31_PteMakes.j2 kj11 a0 a1 t149 false t151 false t153 true false) = some r := by rw [if_pos rfl] at H; exact H
                        clear H
                        have H := H1
                        clear H1
                        have H' := Aside0.mk H
                        clear H
                        go_wp2
                        go_meet
                        case rel => exact ⟨_, (false), (by first | rfl | (simp; done) | (simp [*]; done)), H', ⟨by have := HJ6.out; have := HJ11.out; first | omega | exact Nat.le_refl _⟩, ⟨by repeat (first | (with_reducible first | exact HB.out | apply below_alloc | apply pw_below_drewN | apply below_drew1) | exact HB.out)⟩⟩
                      · replace c34 := Bool.eq_false_iff.mpr c34
                        subst c34
                        have H1 : (gunnylaw31_PteMakes.j2 kj11 a0 a1 t149 false t151 false t153 false (t153 != 0)) = some r := by rw [if_neg (show ¬ (false = true) by decide)] at H; exact H
                        clear H
                        have H := H1
                        clear H1
                        have H' := Aside0.mk H
                        clear H
                        go_wp2
                        go_meet
                        case rel => exact ⟨_, ((t153 != 0)), (by first | rfl | (simp; done) | (simp [*]; done)), H', ⟨by have := HJ6.out; have := HJ11.out; first | omega | exact Nat.le_refl _⟩, ⟨by repeat (first | (with_reducible first | exact HB.out | apply below_alloc | apply pw_below_drewN | apply below_drew1) | exact HB.out)⟩⟩
                    · rw [if_neg c33] at H
                      have c33b0 : (t151 == 0) = false := beq_eq_false_iff_ne.mpr c33
                      have c33b1 : (t151 != 0) = true := bne_iff_ne.mpr c33
                      have H' := Aside0.mk H
                      clear H
                      go_wp2
                      go_meet
                      case rel => exact ⟨_, (true), (by first | rfl | (simp; done) | (simp [*]; done)), H', ⟨by have := HJ6.out; have := HJ11.out; first | omega | exact Nat.le_refl _⟩, ⟨by repeat (first | (with_reducible first | exact HB.out | apply below_alloc | apply pw_below_drewN | apply below_drew1) | exact HB.out)⟩⟩
                · rw [if_neg c30] at H
                  have c30b0 : (t149 == 0) = false := beq_eq_false_iff_ne.mpr c30
                  have c30b1 : (t149 != 0) = true := bne_iff_ne.mpr c30
                  have H' := Aside0.mk H
                  clear H
                  go_wp2
                  go_meet
                  case rel => exact ⟨_, (true), (by first | rfl | (simp; done) | (simp [*]; done)), H', ⟨by have := HJ6.out; have := HJ11.out; first | omega | exact Nat.le_refl _⟩, ⟨by repeat (first | (with_reducible first | exact HB.out | apply below_alloc | apply pw_below_drewN | apply below_drew1) | exact HB.out)⟩⟩
            case rest =>
              clear HC24
              try clear c1
              try clear c2
              try clear p2
              try clear c3
              try clear c7
              try clear c8
              try clear c9
              try clear c10
              try clear c11
              try clear c11b0
              try clear c14
              try clear c14b0
              try clear c14b1
              try clear c14b2
              try clear c15
              try clear c15b0
              try clear c15b1
              try clear c15b2
              try clear c16
              try clear c17
              try clear c17b0
              try clear c17b1
              try clear c17b2
              try clear c18
              try clear c18b0
              try clear c19
              try clear c19b0
              try clear c20
              try clear c20b0
              try clear c20b1
              try clear c20b2
              try clear c21
              try clear c21b0
              try clear c22
              try clear c22b0
              try clear c23
              try clear c25
              try clear c26
              try clear c27
              try clear c28
              try clear c28b0
              try clear c28b1
              try clear c29
              try clear c30
              try clear c30b0
              try clear c30b1
              try clear c31
              try clear c32
              try clear c33
              try clear c33b0
              try clear c33b1
              try clear c34
              try clear p2
              obtain ⟨kq, x89_23, rfl, HA, HJ23, HB⟩ := hcut
              cases kq with
              | zero => exact absurd HA.out (by simp [gunnylaw31_PteMakes.j2])
              | succ kj23 =>
                have H := HA.out
                clear HA
                simp only [gunnylaw31_PteMakes.j2] at H
                by_cases c35 : x89_23 = true
                · subst c35
                  have H1 : (some false) = some r := by rw [if_pos rfl] at H; exact H
                  clear H
                  have H := H1
                  clear H1
                  obtain rfl := Option.some.inj H
                  go_wp2
                  go_ret
                  exact ⟨by first | rfl | (simp [errW_none, errW_some] <;> rfl) | (simp [*, errW_none, errW_some] <;> rfl), by repeat (first | (with_reducible first | exact HB.out | apply below_alloc | apply pw_below_drewN | apply below_drew1) | exact HB.out)⟩
                · replace c35 := Bool.eq_false_iff.mpr c35
                  subst c35
                  have H1 : (if t150 = true then ((gunnyref31_Put.f true false false false 0 a0 false).bind fun t157 => (if t149 = t157 then (if t152 = true then ((gunnyref31_Put.f true true false false a1 a0 false).bind fun t158 => (gunnylaw31_PteMakes.j3 kj23 a0 a1 t153 t154 (t151 != t158))) else (gunnylaw31_PteMakes.j3 kj23 a0 a1 t153 t154 false)) else (gunnylaw31_PteMakes.j3 kj23 a0 a1 t153 t154 true))) else (if t152 = true then ((gunnyref31_Put.f true true false false a1 a0 false).bind fun t159 => (gunnylaw31_PteMakes.j3 kj23 a0 a1 t153 t154 (t151 != t159))) else (gunnylaw31_PteMakes.j3 kj23 a0 a1 t153 t154 false))) = some r := by rw [if_neg (show ¬ (false = true) by decide)] at H; exact H
                  clear H
                  have H := H1
                  clear H1
                  have HC36 := Aside0.mk H
                  clear H
                  go_upto_region 10 with (fail)
                  go_cut [108] (fun v108 wc => ∃ (kq : Nat) (x108_35 : Bool), v108 = .bool x108_35 ∧ Aside0 (gunnylaw31_PteMakes.j3 kq a0 a1 t153 t154 x108_35 = some r) ∧ Aside0 (kq ≤ kj23) ∧ Aside0 (Below w.heap.size w wc))
                  case first =>
                    have H := HC36.out
                    clear HC36
                    by_cases c37 : t150 = true
                    · subst c37
                      have H1 : ((gunnyref31_Put.f true false false false 0 a0 false).bind fun t157 => (if t149 = t157 then (if t152 = true then ((gunnyref31_Put.f true true false false a1 a0 false).bind fun t158 => (gunnylaw31_PteMakes.j3 kj23 a0 a1 t153 t154 (t151 != t158))) else (gunnylaw31_PteMakes.j3 kj23 a0 a1 t153 t154 false)) else (gunnylaw31_PteMakes.j3 kj23 a0 a1 t153 t154 true))) = some r := by rw [if_pos rfl] at H; exact H
                      clear H
                      have H := H1
                      clear H1
                      replace H := Option.bind_eq_some_iff.mp H
                      obtain ⟨t157, A380, H⟩ := H
                      replace H : (if t149 = t157 then (if t152 = true then ((gunnyref31_Put.f true true false false a1 a0 false).bind fun t158 => (gunnylaw31_PteMakes.j3 kj23 a0 a1 t153 t154 (t151 != t158))) else (gunnylaw31_PteMakes.j3 kj23 a0 a1 t153 t154 false)) else (gunnylaw31_PteMakes.j3 kj23 a0 a1 t153 t154 true)) = some r := H
                      have A38 := Aside0.mk A380
                      clear A380
                      by_cases c39 : t149 = t157
                      · rw [if_pos c39] at H
                        have c39b0 : (t149 == t157) = true := beq_iff_eq.mpr c39
                        have c39b1 : (t149 != t157) = false := bne_eq_false_iff_eq.mpr c39
                        clear c39
                        (first | rw [c39b0] | (simp only [i64_w, i32_w]; rw [c39b0]) | skip)
                        by_cases c40 : t152 = true
                        · subst c40
                          have H1 : ((gunnyref31_Put.f true true false false a1 a0 false).bind fun t158 => (gunnylaw31_PteMakes.j3 kj23 a0 a1 t153 t154 (t151 != t158))) = some r := by rw [if_pos rfl] at H; exact H
                          clear H
                          have H := H1
                          clear H1
                          replace H := Option.bind_eq_some_iff.mp H
                          obtain ⟨t158, A410, H⟩ := H
                          replace H : (gunnylaw31_PteMakes.j3 kj23 a0 a1 t153 t154 (t151 != t158)) = some r := H
                          have A41 := Aside0.mk A410
                          clear A410
                          have H' := Aside0.mk H
                          clear H
                          go_wp2_with (first | (go_at_call 12; (with_reducible refine (gunnyref31_Put.calls true false false false 0 a0 false t157 _ A38.out).mono ?_); rintro e w42 ⟨rfl, hb⟩; have n0_ := Aside0.mk (below_step (by repeat (first | (with_reducible first | exact HB.out | apply below_alloc | apply pw_below_drewN | apply below_drew1) | exact HB.out)) hb); clear HB; have HB := n0_; clear n0_; (try clear hb); (try clear hb2); (try clear hk); (try clear hi)) | (go_at_call 12; (with_reducible refine (gunnyref31_Put.calls true true false false a1 a0 false t158 _ A41.out).mono ?_); rintro e w43 ⟨rfl, hb⟩; have n0_ := Aside0.mk (below_step (by repeat (first | (with_reducible first | exact HB.out | apply below_alloc | apply pw_below_drewN | apply below_drew1) | exact HB.out)) hb); clear HB; have HB := n0_; clear n0_; (try clear hb); (try clear hb2); (try clear hk); (try clear hi)))
                          go_meet
                          case rel => exact ⟨_, ((t151 != t158)), (by first | rfl | (simp; done) | (simp [*]; done)), H', ⟨by have := HJ6.out; have := HJ11.out; have := HJ23.out; first | omega | exact Nat.le_refl _⟩, ⟨by repeat (first | (with_reducible first | exact HB.out | apply below_alloc | apply pw_below_drewN | apply below_drew1) | exact HB.out)⟩⟩
                        · replace c40 := Bool.eq_false_iff.mpr c40
                          subst c40
                          have H1 : (gunnylaw31_PteMakes.j3 kj23 a0 a1 t153 t154 false) = some r := by rw [if_neg (show ¬ (false = true) by decide)] at H; exact H
                          clear H
                          have H := H1
                          clear H1
                          have H' := Aside0.mk H
                          clear H
                          go_wp2_with (first | (go_at_call 12; (with_reducible refine (gunnyref31_Put.calls true false false false 0 a0 false t157 _ A38.out).mono ?_); rintro e w44 ⟨rfl, hb⟩; have n0_ := Aside0.mk (below_step (by repeat (first | (with_reducible first | exact HB.out | apply below_alloc | apply pw_below_drewN | apply below_drew1) | exact HB.out)) hb); clear HB; have HB := n0_; clear n0_; (try clear hb); (try clear hb2); (try clear hk); (try clear hi)))
                          go_meet
                          case rel => exact ⟨_, (false), (by first | rfl | (simp; done) | (simp [*]; done)), H', ⟨by have := HJ6.out; have := HJ11.out; have := HJ23.out; first | omega | exact Nat.le_refl _⟩, ⟨by repeat (first | (with_reducible first | exact HB.out | apply below_alloc | apply pw_below_drewN | apply below_drew1) | exact HB.out)⟩⟩
                      · rw [if_neg c39] at H
                        have c39b0 : (t149 == t157) = false := beq_eq_false_iff_ne.mpr c39
                        have c39b1 : (t149 != t157) = true := bne_iff_ne.mpr c39
                        (first | rw [c39b0] | (simp only [i64_w, i32_w]; rw [c39b0]) | skip)
                        have H' := Aside0.mk H
                        clear H
                        go_wp2_with (first | (go_at_call 12; (with_reducible refine (gunnyref31_Put.calls true false false false 0 a0 false t157 _ A38.out).mono ?_); rintro e w45 ⟨rfl, hb⟩; have n0_ := Aside0.mk (below_step (by repeat (first | (with_reducible first | exact HB.out | apply below_alloc | apply pw_below_drewN | apply below_drew1) | exact HB.out)) hb); clear HB; have HB := n0_; clear n0_; (try clear hb); (try clear hb2); (try clear hk); (try clear hi)))
                        go_meet
                        case rel => exact ⟨_, (true), (by first | rfl | (simp; done) | (simp [*]; done)), H', ⟨by have := HJ6.out; have := HJ11.out; have := HJ23.out; first | omega | exact Nat.le_refl _⟩, ⟨by repeat (first | (with_reducible first | exact HB.out | apply below_alloc | apply pw_below_drewN | apply below_drew1) | exact HB.out)⟩⟩
                    · replace c37 := Bool.eq_false_iff.mpr c37
                      subst c37
                      have H1 : (if t152 = true then ((gunnyref31_Put.f true true false false a1 a0 false).bind fun t159 => (gunnylaw31_PteMakes.j3 kj23 a0 a1 t153 t154 (t151 != t159))) else (gunnylaw31_PteMakes.j3 kj23 a0 a1 t153 t154 false)) = some r := by rw [if_neg (show ¬ (false = true) by decide)] at H; exact H
                      clear H
                      have H := H1
                      clear H1
                      by_cases c46 : t152 = true
                      · subst c46
                        have H1 : ((gunnyref31_Put.f true true false false a1 a0 false).bind fun t159 => (gunnylaw31_PteMakes.j3 kj23 a0 a1 t153 t154 (t151 != t159))) = some r := by rw [if_pos rfl] at H; exact H
                        clear H
                        have H := H1
                        clear H1
                        replace H := Option.bind_eq_some_iff.mp H
                        obtain ⟨t159, A470, H⟩ := H
                        replace H : (gunnylaw31_PteMakes.j3 kj23 a0 a1 t153 t154 (t151 != t159)) = some r := H
                        have A47 := Aside0.mk A470
                        clear A470
                        have H' := Aside0.mk H
                        clear H
                        go_wp2_with (first | (go_at_call 12; (with_reducible refine (gunnyref31_Put.calls true true false false a1 a0 false t159 _ A47.out).mono ?_); rintro e w48 ⟨rfl, hb⟩; have n0_ := Aside0.mk (below_step (by repeat (first | (with_reducible first | exact HB.out | apply below_alloc | apply pw_below_drewN | apply below_drew1) | exact HB.out)) hb); clear HB; have HB := n0_; clear n0_; (try clear hb); (try clear hb2); (try clear hk); (try clear hi)))
                        go_meet
                        case rel => exact ⟨_, ((t151 != t159)), (by first | rfl | (simp; done) | (simp [*]; done)), H', ⟨by have := HJ6.out; have := HJ11.out; have := HJ23.out; first | omega | exact Nat.le_refl _⟩, ⟨by repeat (first | (with_reducible first | exact HB.out | apply below_alloc | apply pw_below_drewN | apply below_drew1) | exact HB.out)⟩⟩
                      · replace c46 := Bool.eq_false_iff.mpr c46
                        subst c46
                        have H1 : (gunnylaw31_PteMakes.j3 kj23 a0 a1 t153 t154 false) = some r := by rw [if_neg (show ¬ (false = true) by decide)] at H; exact H
                        clear H
                        have H := H1
                        clear H1
                        have H' := Aside0.mk H
                        clear H
                        go_wp2
                        go_meet
                        case rel => exact ⟨_, (false), (by first | rfl | (simp; done) | (simp [*]; done)), H', ⟨by have := HJ6.out; have := HJ11.out; have := HJ23.out; first | omega | exact Nat.le_refl _⟩, ⟨by repeat (first | (with_reducible first | exact HB.out | apply below_alloc | apply pw_below_drewN | apply below_drew1) | exact HB.out)⟩⟩
                  case rest =>
                    clear HC36
                    try clear c1
                    try clear c2
                    try clear p2
                    try clear c3
                    try clear c4
                    try clear c7
                    try clear c8
                    try clear c9
                    try clear c10
                    try clear c11
                    try clear c11b0
                    try clear c14
                    try clear c14b0
                    try clear c14b1
                    try clear c14b2
                    try clear c15
                    try clear c15b0
                    try clear c15b1
                    try clear c15b2
                    try clear c16
                    try clear c17
                    try clear c17b0
                    try clear c17b1
                    try clear c17b2
                    try clear c18
                    try clear c18b0
                    try clear c19
                    try clear c19b0
                    try clear c20
                    try clear c20b0
                    try clear c20b1
                    try clear c20b2
                    try clear c21
                    try clear c21b0
                    try clear c22
                    try clear c22b0
                    try clear c23
                    try clear c25
                    try clear c26
                    try clear c27
                    try clear c28
                    try clear c28b0
                    try clear c28b1
                    try clear c29
                    try clear c30
                    try clear c30b0
                    try clear c30b1
                    try clear c31
                    try clear c32
                    try clear c33
                    try clear c33b0
                    try clear c33b1
                    try clear c34
                    try clear c35
                    try clear c37
                    try clear c39
                    try clear c39b0
                    try clear c39b1
                    try clear c40
                    try clear c46
                    try clear p2
                    obtain ⟨kq, x108_35, rfl, HA, HJ35, HB⟩ := hcut
                    cases kq with
                    | zero => exact absurd HA.out (by simp [gunnylaw31_PteMakes.j3])
                    | succ kj35 =>
                      have H := HA.out
                      clear HA
                      simp only [gunnylaw31_PteMakes.j3] at H
                      by_cases c49 : x108_35 = true
                      · subst c49
                        have H1 : (some false) = some r := by rw [if_pos rfl] at H; exact H
                        clear H
                        have H := H1
                        clear H1
                        obtain rfl := Option.some.inj H
                        go_wp2
                        go_ret
                        exact ⟨by first | rfl | (simp [errW_none, errW_some] <;> rfl) | (simp [*, errW_none, errW_some] <;> rfl), by repeat (first | (with_reducible first | exact HB.out | apply below_alloc | apply pw_below_drewN | apply below_drew1) | exact HB.out)⟩
                      · replace c49 := Bool.eq_false_iff.mpr c49
                        subst c49
                        have H1 : (if t154 = true then ((gunnyref31_Put.f false true false false a1 a0 false).bind fun t160 => (if t153 = t160 then ((gunnylaw31_lives.f kj35).bind fun t161 => (some t161)) else (some false))) else ((gunnylaw31_lives.f kj35).bind fun t162 => (some t162))) = some r := by rw [if_neg (show ¬ (false = true) by decide)] at H; exact H
                        clear H
                        have H := H1
                        clear H1
                        by_cases c50 : t154 = true
                        · subst c50
                          have H1 : ((gunnyref31_Put.f false true false false a1 a0 false).bind fun t160 => (if t153 = t160 then ((gunnylaw31_lives.f kj35).bind fun t161 => (some t161)) else (some false))) = some r := by rw [if_pos rfl] at H; exact H
                          clear H
                          have H := H1
                          clear H1
                          replace H := Option.bind_eq_some_iff.mp H
                          obtain ⟨t160, A510, H⟩ := H
                          replace H : (if t153 = t160 then ((gunnylaw31_lives.f kj35).bind fun t161 => (some t161)) else (some false)) = some r := H
                          have A51 := Aside0.mk A510
                          clear A510
                          by_cases c52 : t153 = t160
                          · rw [if_pos c52] at H
                            have c52b0 : (t153 == t160) = true := beq_iff_eq.mpr c52
                            have c52b1 : (t153 != t160) = false := bne_eq_false_iff_eq.mpr c52
                            clear c52
                            replace H := Option.bind_eq_some_iff.mp H
                            obtain ⟨t161, A530, H⟩ := H
                            replace H : (some t161) = some r := H
                            have A53 := Aside0.mk A530
                            clear A530
                            obtain rfl := Option.some.inj H
                            go_wp2_with (first | (go_at_call 12; (with_reducible refine (gunnyref31_Put.calls false true false false a1 a0 false t160 _ A51.out).mono ?_); rintro e w54 ⟨rfl, hb⟩; have n0_ := Aside0.mk (below_step (by repeat (first | (with_reducible first | exact HB.out | apply below_alloc | apply pw_below_drewN | apply below_drew1) | exact HB.out)) hb); clear HB; have HB := n0_; clear n0_; (try clear hb); (try clear hb2); (try clear hk); (try clear hi)) | (go_at_call 13; (with_reducible refine (gunnylaw31_lives.calls kj35  t161 _ A53.out).mono ?_); rintro e w55 ⟨rfl, hb⟩; have n0_ := Aside0.mk (below_step (by repeat (first | (with_reducible first | exact HB.out | apply below_alloc | apply pw_below_drewN | apply below_drew1) | exact HB.out)) hb); clear HB; have HB := n0_; clear n0_; (try clear hb); (try clear hb2); (try clear hk); (try clear hi)))
                            go_ret
                            exact ⟨by first | rfl | (simp [errW_none, errW_some] <;> rfl) | (simp [*, errW_none, errW_some] <;> rfl), by repeat (first | (with_reducible first | exact HB.out | apply below_alloc | apply pw_below_drewN | apply below_drew1) | exact HB.out)⟩
                          · rw [if_neg c52] at H
                            have c52b0 : (t153 == t160) = false := beq_eq_false_iff_ne.mpr c52
                            have c52b1 : (t153 != t160) = true := bne_iff_ne.mpr c52
                            obtain rfl := Option.some.inj H
                            go_wp2_with (first | (go_at_call 12; (with_reducible refine (gunnyref31_Put.calls false true false false a1 a0 false t160 _ A51.out).mono ?_); rintro e w56 ⟨rfl, hb⟩; have n0_ := Aside0.mk (below_step (by repeat (first | (with_reducible first | exact HB.out | apply below_alloc | apply pw_below_drewN | apply below_drew1) | exact HB.out)) hb); clear HB; have HB := n0_; clear n0_; (try clear hb); (try clear hb2); (try clear hk); (try clear hi)))
                            go_ret
                            exact ⟨by first | rfl | (simp [errW_none, errW_some] <;> rfl) | (simp [*, errW_none, errW_some] <;> rfl), by repeat (first | (with_reducible first | exact HB.out | apply below_alloc | apply pw_below_drewN | apply below_drew1) | exact HB.out)⟩
                        · replace c50 := Bool.eq_false_iff.mpr c50
                          subst c50
                          have H1 : ((gunnylaw31_lives.f kj35).bind fun t162 => (some t162)) = some r := by rw [if_neg (show ¬ (false = true) by decide)] at H; exact H
                          clear H
                          have H := H1
                          clear H1
                          replace H := Option.bind_eq_some_iff.mp H
                          obtain ⟨t162, A570, H⟩ := H
                          replace H : (some t162) = some r := H
                          have A57 := Aside0.mk A570
                          clear A570
                          obtain rfl := Option.some.inj H
                          go_wp2_with (first | (go_at_call 13; (with_reducible refine (gunnylaw31_lives.calls kj35  t162 _ A57.out).mono ?_); rintro e w58 ⟨rfl, hb⟩; have n0_ := Aside0.mk (below_step (by repeat (first | (with_reducible first | exact HB.out | apply below_alloc | apply pw_below_drewN | apply below_drew1) | exact HB.out)) hb); clear HB; have HB := n0_; clear n0_; (try clear hb); (try clear hb2); (try clear hk); (try clear hi)))
                          go_ret
                          exact ⟨by first | rfl | (simp [errW_none, errW_some] <;> rfl) | (simp [*, errW_none, errW_some] <;> rfl), by repeat (first | (with_reducible first | exact HB.out | apply below_alloc | apply pw_below_drewN | apply below_drew1) | exact HB.out)⟩

/-- THE ONE PURE STATEMENT of gunnylaw31_PteMakes: yours. -/
def gunnylaw31_PteMakes.Pure : Prop := ∀ (a0 : Int) (a1 : Int), (Lit.int .i64 a0).wf = true → (Lit.int .i64 a1).wf = true → ∃ k, gunnylaw31_PteMakes.f k a0 a1 = some true
theorem gunnylaw31_PteMakes.walk (P : gunnylaw31_PteMakes.Pure) (a0 : Int) (a1 : Int) (w : World) (w0 : (Lit.int .i64 a0).wf = true) (w1 : (Lit.int .i64 a1).wf = true) :
    Calls Try.prog 3 #[.int .i64 a0, .int .i64 a1] w fun e w' => e = .returned (.bool true) ∧ Below w.heap.size w w' := by
  obtain ⟨k, h⟩ := P a0 a1 w0 w1
  refine (gunnylaw31_PteMakes.calls k a0 a1 true w h).mono ?_
  rintro e w' ⟨rfl, hd⟩
  exact ⟨rfl, hd⟩

end Go.Proofs.Ytcadfblcpfhjfaa.R
