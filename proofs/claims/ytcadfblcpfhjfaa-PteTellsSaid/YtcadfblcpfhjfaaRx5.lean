-- written for this claim by a program (a patched print)
import Derived.Handy
import Derived.Test.YtcadfblcpfhjfaaRx0
import Derived.Test.YtcadfblcpfhjfaaRx1
import Derived.Test.YtcadfblcpfhjfaaRx2
namespace Go.Proofs.Ytcadfblcpfhjfaa.R
open Go.RowKit Go.Proofs.YtcadfblcpfhjfaaW.PrintWords Go.Proofs.YtcadfblcpfhjfaaW.PrintLast Go.Proofs.YtcadfblcpfhjfaaW.PrintMore
attribute [local go_sem] max2_int min2_int max_two min_two max_three min_three max_four min_four   -- for this text's walks alone
set_option linter.unusedVariables false
set_option linter.unusedSimpArgs false

/-! ### pte_Perm: function 21 -/
def pte_Perm.f (k : Nat) (a0 : Int) : Option (Int) := (pte_Kind.f k a0).bind fun t163 => (if t163 = 0 then (some 0) else (if t163 = 4 then (some 0) else ((pte_parts.f k a0).bind fun bt164 => (some bt164.2))))
theorem pte_Perm.mono : ∀ a0 k, LeO (pte_Perm.f k a0) (pte_Perm.f (k + 1) a0) := by
  intro a0 k
  unfold pte_Perm.f
  repeat' first
      | (with_reducible exact pte_Kind.mono _ _)
      | (with_reducible exact pte_parts.mono _ _)
      | (with_reducible exact LeO.refl _)
      | (with_reducible exact LeO.none _)
      | (with_reducible refine LeO.ite ?_ ?_)
      | (with_reducible refine LeO.bind ?_ (fun _ => ?_))
      | exact pte_Kind.mono _ _
      | exact pte_parts.mono _ _
      | exact LeO.none _
      | refine LeO.ite ?_ ?_
      | refine LeO.bind ?_ (fun _ => ?_)
set_option maxHeartbeats 8000000 in
set_option maxRecDepth 100000 in
theorem pte_Perm.calls (k : Nat) (a0 : Int) (r : Int) (w : World) (h : pte_Perm.f k a0 = some r) :
    Calls Try.prog 21 #[.int .u64 a0] w fun e w' => e = .returned (.int .i64 r) ∧ Below w.heap.size w w' := by
  have HB := Aside0.mk (Below.refl w.heap.size w)
  have H : ((pte_Kind.f k a0).bind fun t163 => (if t163 = 0 then (some 0) else (if t163 = 4 then (some 0) else ((pte_parts.f k a0).bind fun bt164 => (some bt164.2))))) = some r := h
  clear h
  replace H := Option.bind_eq_some_iff.mp H
  obtain ⟨t163, A20, H⟩ := H
  replace H : (if t163 = 0 then (some 0) else (if t163 = 4 then (some 0) else ((pte_parts.f k a0).bind fun bt164 => (some bt164.2)))) = some r := H
  have A2 := Aside0.mk A20
  clear A20
  by_cases c3 : t163 = 0
  · rw [if_pos c3] at H
    have c3b0 : (t163 == 0) = true := beq_iff_eq.mpr c3
    have c3b1 : (t163 != 0) = false := bne_eq_false_iff_eq.mpr c3
    clear c3
    obtain rfl := Option.some.inj H
    go_enter Try.func21, Try.ntmps21
    go_wp2_with (first | ((with_reducible refine gate_callee (f := 19) rfl ?_); refine goesL_ (some 7) rfl rfl Try.func19 (by kernel_rfl) rfl #[.int .u64 a0] rfl (by (try simp only [List.map_toArray, List.map_cons, List.map_nil]); first | done | rfl | (simp only [List.length_drop, List.length_take]; rfl)) ?_; (with_reducible refine (pte_Kind.calls k a0 t163 _ A2.out).mono ?_); rintro e w4 ⟨rfl, hb⟩; refine ⟨_, rfl, ?_⟩; have n0_ := Aside0.mk (below_step (by repeat (first | (with_reducible first | exact HB.out | apply below_alloc | apply pw_below_drewN | apply below_drew1) | exact HB.out)) hb); clear HB; have HB := n0_; clear n0_; (try clear hb); (try clear hb2); (try clear hk); (try clear hi)))
    go_ret
    exact ⟨by first | rfl | (simp [errW_none, errW_some] <;> rfl) | (simp [*, errW_none, errW_some] <;> rfl), by repeat (first | (with_reducible first | exact HB.out | apply below_alloc | apply pw_below_drewN | apply below_drew1) | exact HB.out)⟩
  · rw [if_neg c3] at H
    have c3b0 : (t163 == 0) = false := beq_eq_false_iff_ne.mpr c3
    have c3b1 : (t163 != 0) = true := bne_iff_ne.mpr c3
    by_cases c5 : t163 = 4
    · rw [if_pos c5] at H
      have c5b0 : (t163 == 4) = true := beq_iff_eq.mpr c5
      have c5b1 : (t163 != 4) = false := bne_eq_false_iff_eq.mpr c5
      clear c5
      obtain rfl := Option.some.inj H
      go_enter Try.func21, Try.ntmps21
      go_wp2_with (first | ((with_reducible refine gate_callee (f := 19) rfl ?_); refine goesL_ (some 7) rfl rfl Try.func19 (by kernel_rfl) rfl #[.int .u64 a0] rfl (by (try simp only [List.map_toArray, List.map_cons, List.map_nil]); first | done | rfl | (simp only [List.length_drop, List.length_take]; rfl)) ?_; (with_reducible refine (pte_Kind.calls k a0 t163 _ A2.out).mono ?_); rintro e w6 ⟨rfl, hb⟩; refine ⟨_, rfl, ?_⟩; have n0_ := Aside0.mk (below_step (by repeat (first | (with_reducible first | exact HB.out | apply below_alloc | apply pw_below_drewN | apply below_drew1) | exact HB.out)) hb); clear HB; have HB := n0_; clear n0_; (try clear hb); (try clear hb2); (try clear hk); (try clear hi)))
      go_ret
      exact ⟨by first | rfl | (simp [errW_none, errW_some] <;> rfl) | (simp [*, errW_none, errW_some] <;> rfl), by repeat (first | (with_reducible first | exact HB.out | apply below_alloc | apply pw_below_drewN | apply below_drew1) | exact HB.out)⟩
    · rw [if_neg c5] at H
      have c5b0 : (t163 == 4) = false := beq_eq_false_iff_ne.mpr c5
      have c5b1 : (t163 != 4) = true := bne_iff_ne.mpr c5
      replace H := Option.bind_eq_some_iff.mp H
      obtain ⟨⟨t164, t165⟩, A70, H⟩ := H
      replace H : (some t165) = some r := H
      have A7 := Aside0.mk A70
      clear A70
      obtain rfl := Option.some.inj H
      go_enter Try.func21, Try.ntmps21
      go_wp2_with (first | ((with_reducible refine gate_callee (f := 19) rfl ?_); refine goesL_ (some 7) rfl rfl Try.func19 (by kernel_rfl) rfl #[.int .u64 a0] rfl (by (try simp only [List.map_toArray, List.map_cons, List.map_nil]); first | done | rfl | (simp only [List.length_drop, List.length_take]; rfl)) ?_; (with_reducible refine (pte_Kind.calls k a0 t163 _ A2.out).mono ?_); rintro e w8 ⟨rfl, hb⟩; refine ⟨_, rfl, ?_⟩; have n0_ := Aside0.mk (below_step (by repeat (first | (with_reducible first | exact HB.out | apply below_alloc | apply pw_below_drewN | apply below_drew1) | exact HB.out)) hb); clear HB; have HB := n0_; clear n0_; (try clear hb); (try clear hb2); (try clear hk); (try clear hi)) | ((with_reducible refine gate_callee (f := 30) rfl ?_); refine goesL_ (some 16) rfl rfl Try.func30 (by kernel_rfl) rfl #[.int .u64 a0] rfl (by (try simp only [List.map_toArray, List.map_cons, List.map_nil]); first | done | rfl | (simp only [List.length_drop, List.length_take]; rfl)) ?_; (with_reducible refine (pte_parts.calls k a0 t164 t165 _ A7.out).mono ?_); rintro e w' ⟨rfl, ⟨nd, rfl⟩⟩; refine ⟨_, rfl, ?_⟩))
      go_ret
      exact ⟨by first | rfl | (simp [errW_none, errW_some] <;> rfl) | (simp [*, errW_none, errW_some] <;> rfl), by repeat (first | (with_reducible first | exact HB.out | apply below_alloc | apply pw_below_drewN | apply below_drew1) | exact HB.out)⟩

/-! ### pte_Touch: function 14 -/
mutual
def pte_Touch.l0 : Nat → Int → Int → List Int → Int → Int → Option (Int × Bool)
  | 0, _, _, _, _, _ => none
  | k + 1, x0, x6, x15, x16, x17 => if x17 < x16 then (if 0 ≤ x17 then (if x17 < (x15.length : Int) then (if (rd x15 x17) = 1 then ((pte_Perm.f k x0).bind fun t169 => (pte_Touch.j1 k x0 x6 (rd x15 x17) x15 x16 x17 ((Go.bits .and .i64 t169 (rd x15 x17)) == 0))) else (if (rd x15 x17) = 2 then ((pte_Perm.f k x0).bind fun t170 => (pte_Touch.j1 k x0 x6 (rd x15 x17) x15 x16 x17 ((Go.bits .and .i64 t170 (rd x15 x17)) == 0))) else (if (rd x15 x17) = 4 then ((pte_Perm.f k x0).bind fun t171 => (pte_Touch.j1 k x0 x6 (rd x15 x17) x15 x16 x17 ((Go.bits .and .i64 t171 (rd x15 x17)) == 0))) else (pte_Touch.j1 k x0 x6 (rd x15 x17) x15 x16 x17 true)))) else (none)) else (none)) else (some (x6, true))
def pte_Touch.j1 : Nat → Int → Int → Int → List Int → Int → Int → Bool → Option (Int × Bool)
  | 0, _, _, _, _, _, _, _ => none
  | k + 1, x0, x6, x8, x15, x16, x17, x37 => if x37 = true then (some (x0, false)) else (if x8 = 2 then ((num_Set.f k x6 7 1 1).bind fun t172 => (pte_Touch.l0 k x0 t172 x15 x16 (wrap64 (x17 + 1)))) else (pte_Touch.l0 k x0 x6 x15 x16 (wrap64 (x17 + 1))))
end
def pte_Touch.f (k : Nat) (a0 : Int) (l1 : List Int) : Option (Int × Bool) := (pte_Kind.f k a0).bind fun t166 => (if t166 = 2 then ((num_Set.f k a0 6 1 1).bind fun t167 => (pte_Touch.l0 k a0 t167 l1 (l1.length : Int) 0)) else (some (a0, false)))
theorem pte_Touch.mono_l : ∀ k, (∀ y0 y1 y2 y3 y4, LeO (pte_Touch.l0 k y0 y1 y2 y3 y4) (pte_Touch.l0 (k + 1) y0 y1 y2 y3 y4)) ∧ (∀ y0 y1 y2 y3 y4 y5 y6, LeO (pte_Touch.j1 k y0 y1 y2 y3 y4 y5 y6) (pte_Touch.j1 (k + 1) y0 y1 y2 y3 y4 y5 y6))
  | 0 => ⟨fun _ _ _ _ _ r h => by simp [pte_Touch.l0] at h, fun _ _ _ _ _ _ _ r h => by simp [pte_Touch.j1] at h⟩
  | k + 1 => by
    obtain ⟨ih0, ih1⟩ := pte_Touch.mono_l k
    refine ⟨?_, ?_⟩
    · intro y0 y1 y2 y3 y4
      unfold pte_Touch.l0
      repeat' first
      | (with_reducible exact ih0 _ _ _ _ _)
      | (with_reducible exact ih1 _ _ _ _ _ _ _)
      | (with_reducible exact num_Set.mono _ _ _ _ _)
      | (with_reducible exact pte_Kind.mono _ _)
      | (with_reducible exact pte_Perm.mono _ _)
      | (with_reducible exact LeO.refl _)
      | (with_reducible exact LeO.none _)
      | (with_reducible refine LeO.ite ?_ ?_)
      | (with_reducible refine LeO.bind ?_ (fun _ => ?_))
      | exact ih0 _ _ _ _ _
      | exact ih1 _ _ _ _ _ _ _
      | exact num_Set.mono _ _ _ _ _
      | exact pte_Kind.mono _ _
      | exact pte_Perm.mono _ _
      | exact LeO.none _
      | refine LeO.ite ?_ ?_
      | refine LeO.bind ?_ (fun _ => ?_)
    · intro y0 y1 y2 y3 y4 y5 y6
      unfold pte_Touch.j1
      repeat' first
      | (with_reducible exact ih0 _ _ _ _ _)
      | (with_reducible exact ih1 _ _ _ _ _ _ _)
      | (with_reducible exact num_Set.mono _ _ _ _ _)
      | (with_reducible exact pte_Kind.mono _ _)
      | (with_reducible exact pte_Perm.mono _ _)
      | (with_reducible exact LeO.refl _)
      | (with_reducible exact LeO.none _)
      | (with_reducible refine LeO.ite ?_ ?_)
      | (with_reducible refine LeO.bind ?_ (fun _ => ?_))
      | exact ih0 _ _ _ _ _
      | exact ih1 _ _ _ _ _ _ _
      | exact num_Set.mono _ _ _ _ _
      | exact pte_Kind.mono _ _
      | exact pte_Perm.mono _ _
      | exact LeO.none _
      | refine LeO.ite ?_ ?_
      | refine LeO.bind ?_ (fun _ => ?_)
theorem pte_Touch.mono : ∀ a0 a1 k, LeO (pte_Touch.f k a0 a1) (pte_Touch.f (k + 1) a0 a1) := by
  intro a0 a1 k
  obtain ⟨ih0, ih1⟩ := pte_Touch.mono_l k
  unfold pte_Touch.f
  repeat' first
      | (with_reducible exact ih0 _ _ _ _ _)
      | (with_reducible exact ih1 _ _ _ _ _ _ _)
      | (with_reducible exact num_Set.mono _ _ _ _ _)
      | (with_reducible exact pte_Kind.mono _ _)
      | (with_reducible exact pte_Perm.mono _ _)
      | (with_reducible exact LeO.refl _)
      | (with_reducible exact LeO.none _)
      | (with_reducible refine LeO.ite ?_ ?_)
      | (with_reducible refine LeO.bind ?_ (fun _ => ?_))
      | exact ih0 _ _ _ _ _
      | exact ih1 _ _ _ _ _ _ _
      | exact num_Set.mono _ _ _ _ _
      | exact pte_Kind.mono _ _
      | exact pte_Perm.mono _ _
      | exact LeO.none _
      | refine LeO.ite ?_ ?_
      | refine LeO.bind ?_ (fun _ => ?_)
set_option maxHeartbeats 8000000 in
set_option maxRecDepth 100000 in
theorem pte_Touch.calls (k : Nat) (a0 : Int) (A1 : Option Addr) (c1 : Nat) (l1 : List Int) (r1 : Int) (r2 : Bool) (w : World) (hr1 : Kd.C (Kd.int .i64) w A1 l1.length l1) (hc1 : l1.length ≤ c1) (h : pte_Touch.f k a0 l1 = some (r1, r2)) :
    Calls Try.prog 14 #[.int .u64 a0, .slice A1 l1.length c1] w fun e w' => e = .returned (.tuple #[.int .u64 r1, .bool r2]) ∧ Below w.heap.size w w' := by
  have HR1 := Aside0.mk hr1
  have HC1 := Aside0.mk hc1
  clear hr1 hc1
  have HB := Aside0.mk (Below.refl w.heap.size w)
  have H : ((pte_Kind.f k a0).bind fun t166 => (if t166 = 2 then ((num_Set.f k a0 6 1 1).bind fun t167 => (pte_Touch.l0 k a0 t167 l1 (l1.length : Int) 0)) else (some (a0, false)))) = some (r1, r2) := h
  clear h
  replace H := Option.bind_eq_some_iff.mp H
  obtain ⟨t166, A30, H⟩ := H
  replace H : (if t166 = 2 then ((num_Set.f k a0 6 1 1).bind fun t167 => (pte_Touch.l0 k a0 t167 l1 (l1.length : Int) 0)) else (some (a0, false))) = some (r1, r2) := H
  have A3 := Aside0.mk A30
  clear A30
  by_cases c4 : t166 = 2
  · rw [if_pos c4] at H
    have c4b0 : (t166 == 2) = true := beq_iff_eq.mpr c4
    have c4b1 : (t166 != 2) = false := bne_eq_false_iff_eq.mpr c4
    clear c4
    replace H := Option.bind_eq_some_iff.mp H
    obtain ⟨t167, A50, H⟩ := H
    replace H : (pte_Touch.l0 k a0 t167 l1 (l1.length : Int) 0) = some (r1, r2) := H
    have A5 := Aside0.mk A50
    clear A50
    have H' := Aside0.mk H
    clear H
    go_enter Try.func14, Try.ntmps14
    go_wp2_with (first | ((with_reducible refine gate_callee (f := 19) rfl ?_); refine goesL_ (some 10) rfl rfl Try.func19 (by kernel_rfl) rfl #[.int .u64 a0] rfl (by (try simp only [List.map_toArray, List.map_cons, List.map_nil]); first | done | rfl | (simp only [List.length_drop, List.length_take]; rfl)) ?_; (with_reducible refine (pte_Kind.calls k a0 t166 _ A3.out).mono ?_); rintro e w6 ⟨rfl, hb⟩; refine ⟨_, rfl, ?_⟩; have n0_ := Aside0.mk (below_step (by repeat (first | (with_reducible first | exact HB.out | apply below_alloc | apply pw_below_drewN | apply below_drew1) | exact HB.out)) hb); clear HB; have HB := n0_; clear n0_; (try clear hb); (try clear hb2); (try clear hk); (try clear hi)) | ((with_reducible refine gate_callee (f := 27) rfl ?_); refine goesL_ (some 14) rfl rfl Try.func27 (by kernel_rfl) rfl #[.int .u64 a0, .int .i64 6, .int .i64 1, .int .u64 1] rfl (by (try simp only [List.map_toArray, List.map_cons, List.map_nil]); first | done | rfl | (simp only [List.length_drop, List.length_take]; rfl)) ?_; (with_reducible refine (num_Set.calls k a0 6 1 1 t167 _ A5.out).mono ?_); rintro e w' ⟨rfl, ⟨nd, rfl⟩⟩; refine ⟨_, rfl, ?_⟩))
    go_loopg [6, 17] k (fun kq v6 v17 w' => ∃ (x6_1 : Int) (x17_1 : Int), v6 = .int .u64 x6_1 ∧ v17 = .int .i64 x17_1 ∧ Aside0 (pte_Touch.l0 kq a0 x6_1 l1 (l1.length : Int) x17_1 = some (r1, r2)) ∧ Aside0 (kq ≤ k) ∧ Aside0 (Below w.heap.size w w'))
    case atStart => exact ⟨(t167), (0), (by first | rfl | (simp; done) | (simp [*]; done)), (by first | rfl | (simp; done) | (simp [*]; done)), H', ⟨Nat.le_refl _⟩, ⟨by repeat (first | (with_reducible first | exact HB.out | apply below_alloc | apply pw_below_drewN | apply below_drew1) | exact HB.out)⟩⟩
    case round =>
      clear H'
      try clear c1
      try clear c2
      try clear p2
      try clear c4
      try clear c4b0
      try clear c4b1
      obtain ⟨x6_1, x17_1, rfl, rfl, HA, HK1, HB⟩ := hrel
      cases gk with
      | zero => exact absurd HA.out (by simp [pte_Touch.l0])
      | succ k1 =>
        have H := HA.out
        clear HA
        simp only [pte_Touch.l0] at H
        by_cases c7 : x17_1 < (l1.length : Int)
        · rw [if_pos c7] at H
          have c7b0 : decide (x17_1 < (l1.length : Int)) = true := decide_eq_true c7
          clear c7
          by_cases c8 : 0 ≤ x17_1
          · rw [if_pos c8] at H
            have c8b0 : decide (0 ≤ x17_1) = true := decide_eq_true c8
            clear c8
            by_cases c9 : x17_1 < (l1.length : Int)
            · rw [if_pos c9] at H
              have c9b0 : decide (x17_1 < (l1.length : Int)) = true := decide_eq_true c9
              clear c9
              have HC10 := Aside0.mk H
              clear H
              have p168 : 0 ≤ (x17_1 : Int) := of_decide_eq_true (by first | (with_reducible assumption) | assumption)
              have q168 : x17_1 < (l1.length : Int) := of_decide_eq_true (by first | (with_reducible assumption) | assumption)
              obtain ⟨ad168, e168, hx168_0⟩ := Kd.at_int HR1.out x17_1 p168 q168
              cases e168
              replace hx168_0 := (HB.out.cell (World.block_lt_of_cell? w _ hx168_0)).trans hx168_0
              replace p168 := eq_true p168
              replace q168 := eq_true q168
              go_upto_region 7 with (fail)
              go_cut [37] (fun v37 wc => ∃ (kq : Nat) (x37_9 : Bool), v37 = .bool x37_9 ∧ Aside0 (pte_Touch.j1 kq a0 x6_1 (rd l1 x17_1) l1 (l1.length : Int) x17_1 x37_9 = some (r1, r2)) ∧ Aside0 (kq ≤ k1) ∧ Aside0 (Below w.heap.size w wc))
              case first =>
                have H := HC10.out
                clear HC10
                by_cases c11 : (rd l1 x17_1) = 1
                · rw [if_pos c11] at H
                  have c11b0 : ((rd l1 x17_1) == 1) = true := beq_iff_eq.mpr c11
                  have c11b1 : ((rd l1 x17_1) != 1) = false := bne_eq_false_iff_eq.mpr c11
                  clear c11
                  (first | rw [c11b0] | (simp only [i64_w, i32_w]; rw [c11b0]) | skip)
                  replace H := Option.bind_eq_some_iff.mp H
                  obtain ⟨t169, A120, H⟩ := H
                  replace H : (pte_Touch.j1 k1 a0 x6_1 (rd l1 x17_1) l1 (l1.length : Int) x17_1 ((Go.bits .and .i64 t169 (rd l1 x17_1)) == 0)) = some (r1, r2) := H
                  have A12 := Aside0.mk A120
                  clear A120
                  have H' := Aside0.mk H
                  clear H
                  go_wp2_with (first | (go_at_call 21; (with_reducible refine (pte_Perm.calls k1 a0 t169 _ A12.out).mono ?_); rintro e w13 ⟨rfl, hb⟩; have n0_ := Aside0.mk (below_step (by repeat (first | (with_reducible first | exact HB.out | apply below_alloc | apply pw_below_drewN | apply below_drew1) | exact HB.out)) hb); clear HB; have HB := n0_; clear n0_; (try clear hb); (try clear hb2); (try clear hk); (try clear hi)))
                  go_meet
                  case rel => exact ⟨_, (((Go.bits .and .i64 t169 (rd l1 x17_1)) == 0)), (by first | rfl | (simp; done) | (simp [*]; done)), H', ⟨by have := HK1.out; first | omega | exact Nat.le_refl _⟩, ⟨by repeat (first | (with_reducible first | exact HB.out | apply below_alloc | apply pw_below_drewN | apply below_drew1) | exact HB.out)⟩⟩
                · rw [if_neg c11] at H
                  have c11b0 : ((rd l1 x17_1) == 1) = false := beq_eq_false_iff_ne.mpr c11
                  have c11b1 : ((rd l1 x17_1) != 1) = true := bne_iff_ne.mpr c11
                  (first | rw [c11b0] | (simp only [i64_w, i32_w]; rw [c11b0]) | skip)
                  by_cases c14 : (rd l1 x17_1) = 2
                  · rw [if_pos c14] at H
                    have c14b0 : ((rd l1 x17_1) == 2) = true := beq_iff_eq.mpr c14
                    have c14b1 : ((rd l1 x17_1) != 2) = false := bne_eq_false_iff_eq.mpr c14
                    clear c14
                    replace H := Option.bind_eq_some_iff.mp H
                    obtain ⟨t170, A150, H⟩ := H
                    replace H : (pte_Touch.j1 k1 a0 x6_1 (rd l1 x17_1) l1 (l1.length : Int) x17_1 ((Go.bits .and .i64 t170 (rd l1 x17_1)) == 0)) = some (r1, r2) := H
                    have A15 := Aside0.mk A150
                    clear A150
                    have H' := Aside0.mk H
                    clear H
                    go_wp2_with (first | (go_at_call 21; (with_reducible refine (pte_Perm.calls k1 a0 t170 _ A15.out).mono ?_); rintro e w16 ⟨rfl, hb⟩; have n0_ := Aside0.mk (below_step (by repeat (first | (with_reducible first | exact HB.out | apply below_alloc | apply pw_below_drewN | apply below_drew1) | exact HB.out)) hb); clear HB; have HB := n0_; clear n0_; (try clear hb); (try clear hb2); (try clear hk); (try clear hi)))
                    go_meet
                    case rel => exact ⟨_, (((Go.bits .and .i64 t170 (rd l1 x17_1)) == 0)), (by first | rfl | (simp; done) | (simp [*]; done)), H', ⟨by have := HK1.out; first | omega | exact Nat.le_refl _⟩, ⟨by repeat (first | (with_reducible first | exact HB.out | apply below_alloc | apply pw_below_drewN | apply below_drew1) | exact HB.out)⟩⟩
                  · rw [if_neg c14] at H
                    have c14b0 : ((rd l1 x17_1) == 2) = false := beq_eq_false_iff_ne.mpr c14
                    have c14b1 : ((rd l1 x17_1) != 2) = true := bne_iff_ne.mpr c14
                    by_cases c17 : (rd l1 x17_1) = 4
                    · rw [if_pos c17] at H
                      have c17b0 : ((rd l1 x17_1) == 4) = true := beq_iff_eq.mpr c17
                      have c17b1 : ((rd l1 x17_1) != 4) = false := bne_eq_false_iff_eq.mpr c17
                      clear c17
                      replace H := Option.bind_eq_some_iff.mp H
                      obtain ⟨t171, A180, H⟩ := H
                      replace H : (pte_Touch.j1 k1 a0 x6_1 (rd l1 x17_1) l1 (l1.length : Int) x17_1 ((Go.bits .and .i64 t171 (rd l1 x17_1)) == 0)) = some (r1, r2) := H
                      have A18 := Aside0.mk A180
                      clear A180
                      have H' := Aside0.mk H
                      clear H
                      go_wp2_with (first | (go_at_call 21; (with_reducible refine (pte_Perm.calls k1 a0 t171 _ A18.out).mono ?_); rintro e w19 ⟨rfl, hb⟩; have n0_ := Aside0.mk (below_step (by repeat (first | (with_reducible first | exact HB.out | apply below_alloc | apply pw_below_drewN | apply below_drew1) | exact HB.out)) hb); clear HB; have HB := n0_; clear n0_; (try clear hb); (try clear hb2); (try clear hk); (try clear hi)))
                      go_meet
                      case rel => exact ⟨_, (((Go.bits .and .i64 t171 (rd l1 x17_1)) == 0)), (by first | rfl | (simp; done) | (simp [*]; done)), H', ⟨by have := HK1.out; first | omega | exact Nat.le_refl _⟩, ⟨by repeat (first | (with_reducible first | exact HB.out | apply below_alloc | apply pw_below_drewN | apply below_drew1) | exact HB.out)⟩⟩
                    · rw [if_neg c17] at H
                      have c17b0 : ((rd l1 x17_1) == 4) = false := beq_eq_false_iff_ne.mpr c17
                      have c17b1 : ((rd l1 x17_1) != 4) = true := bne_iff_ne.mpr c17
                      have H' := Aside0.mk H
                      clear H
                      go_wp2
                      go_meet
                      case rel => exact ⟨_, (true), (by first | rfl | (simp; done) | (simp [*]; done)), H', ⟨by have := HK1.out; first | omega | exact Nat.le_refl _⟩, ⟨by repeat (first | (with_reducible first | exact HB.out | apply below_alloc | apply pw_below_drewN | apply below_drew1) | exact HB.out)⟩⟩
              case rest =>
                clear HC10
                try clear c1
                try clear p1
                try clear q1
                try clear hx1
                try clear c2
                try clear p2
                try clear c4
                try clear c4b0
                try clear c4b1
                try clear c7
                try clear c7b0
                try clear c8
                try clear c8b0
                try clear c9
                try clear c9b0
                try clear c11
                try clear c11b0
                try clear c11b1
                try clear c14
                try clear c14b0
                try clear c14b1
                try clear p16
                try clear q16
                try clear hx16
                try clear c17
                try clear c17b0
                try clear c17b1
                try clear c19
                try clear hx168_0
                try clear p168
                try clear p2
                try clear q168
                obtain ⟨kq, x37_9, rfl, HA, HJ9, HB⟩ := hcut
                cases kq with
                | zero => exact absurd HA.out (by simp [pte_Touch.j1])
                | succ kj9 =>
                  have H := HA.out
                  clear HA
                  simp only [pte_Touch.j1] at H
                  by_cases c20 : x37_9 = true
                  · subst c20
                    have H1 : (some (a0, false)) = some (r1, r2) := by rw [if_pos rfl] at H; exact H
                    clear H
                    have H := H1
                    clear H1
                    simp only [Option.some.injEq, Prod.mk.injEq] at H
                    obtain ⟨rfl, rfl⟩ := H
                    go_wp2
                    go_ret2
                    exact ⟨by first | rfl | (simp [errW_none, errW_some] <;> rfl) | (simp [*, errW_none, errW_some] <;> rfl), by repeat (first | (with_reducible first | exact HB.out | apply below_alloc | apply pw_below_drewN | apply below_drew1) | exact HB.out)⟩
                  · replace c20 := Bool.eq_false_iff.mpr c20
                    subst c20
                    have H1 : (if (rd l1 x17_1) = 2 then ((num_Set.f kj9 x6_1 7 1 1).bind fun t172 => (pte_Touch.l0 kj9 a0 t172 l1 (l1.length : Int) (wrap64 (x17_1 + 1)))) else (pte_Touch.l0 kj9 a0 x6_1 l1 (l1.length : Int) (wrap64 (x17_1 + 1)))) = some (r1, r2) := by rw [if_neg (show ¬ (false = true) by decide)] at H; exact H
                    clear H
                    have H := H1
                    clear H1
                    by_cases c21 : (rd l1 x17_1) = 2
                    · rw [if_pos c21] at H
                      have c21b0 : ((rd l1 x17_1) == 2) = true := beq_iff_eq.mpr c21
                      have c21b1 : ((rd l1 x17_1) != 2) = false := bne_eq_false_iff_eq.mpr c21
                      clear c21
                      replace H := Option.bind_eq_some_iff.mp H
                      obtain ⟨t172, A220, H⟩ := H
                      replace H : (pte_Touch.l0 kj9 a0 t172 l1 (l1.length : Int) (wrap64 (x17_1 + 1))) = some (r1, r2) := H
                      have A22 := Aside0.mk A220
                      clear A220
                      have H' := Aside0.mk H
                      clear H
                      go_wp2_with (first | ((with_reducible refine gate_callee (f := 27) rfl ?_); refine goesL_ (some 42) rfl rfl Try.func27 (by kernel_rfl) rfl #[.int .u64 x6_1, .int .i64 7, .int .i64 1, .int .u64 1] rfl (by (try simp only [List.map_toArray, List.map_cons, List.map_nil]); first | done | rfl | (simp only [List.length_drop, List.length_take]; rfl)) ?_; (with_reducible refine (num_Set.calls kj9 x6_1 7 1 1 t172 _ A22.out).mono ?_); rintro e w' ⟨rfl, ⟨nd, rfl⟩⟩; refine ⟨_, rfl, ?_⟩))
                      go_roundg kj9
                      case measure => have := HK1.out; have := HJ9.out; omega
                      case rel => exact ⟨(t172), (wrap64 (x17_1 + 1)), (by first | rfl | (simp; done) | (simp [*]; done)), (by first | rfl | (simp; done) | (simp [*]; done)), H', ⟨by have := HK1.out; have := HJ9.out; omega⟩, ⟨by repeat (first | (with_reducible first | exact HB.out | apply below_alloc | apply pw_below_drewN | apply below_drew1) | exact HB.out)⟩⟩
                    · rw [if_neg c21] at H
                      have c21b0 : ((rd l1 x17_1) == 2) = false := beq_eq_false_iff_ne.mpr c21
                      have c21b1 : ((rd l1 x17_1) != 2) = true := bne_iff_ne.mpr c21
                      have H' := Aside0.mk H
                      clear H
                      go_wp2
                      go_roundg kj9
                      case measure => have := HK1.out; have := HJ9.out; omega
                      case rel => exact ⟨(x6_1), (wrap64 (x17_1 + 1)), (by first | rfl | (simp; done) | (simp [*]; done)), (by first | rfl | (simp; done) | (simp [*]; done)), H', ⟨by have := HK1.out; have := HJ9.out; omega⟩, ⟨by repeat (first | (with_reducible first | exact HB.out | apply below_alloc | apply pw_below_drewN | apply below_drew1) | exact HB.out)⟩⟩
            · rw [if_neg c9] at H
              exact absurd H (by simp)
          · rw [if_neg c8] at H
            exact absurd H (by simp)
        · rw [if_neg c7] at H
          have c7b0 : decide (x17_1 < (l1.length : Int)) = false := decide_eq_false c7
          clear c7
          simp only [Option.some.injEq, Prod.mk.injEq] at H
          obtain ⟨rfl, rfl⟩ := H
          go_wp2
          go_ret2
          exact ⟨by first | rfl | (simp [errW_none, errW_some] <;> rfl) | (simp [*, errW_none, errW_some] <;> rfl), by repeat (first | (with_reducible first | exact HB.out | apply below_alloc | apply pw_below_drewN | apply below_drew1) | exact HB.out)⟩
  · rw [if_neg c4] at H
    have c4b0 : (t166 == 2) = false := beq_eq_false_iff_ne.mpr c4
    have c4b1 : (t166 != 2) = true := bne_iff_ne.mpr c4
    simp only [Option.some.injEq, Prod.mk.injEq] at H
    obtain ⟨rfl, rfl⟩ := H
    go_enter Try.func14, Try.ntmps14
    go_wp2_with (first | ((with_reducible refine gate_callee (f := 19) rfl ?_); refine goesL_ (some 10) rfl rfl Try.func19 (by kernel_rfl) rfl #[.int .u64 a0] rfl (by (try simp only [List.map_toArray, List.map_cons, List.map_nil]); first | done | rfl | (simp only [List.length_drop, List.length_take]; rfl)) ?_; (with_reducible refine (pte_Kind.calls k a0 t166 _ A3.out).mono ?_); rintro e w23 ⟨rfl, hb⟩; refine ⟨_, rfl, ?_⟩; have n0_ := Aside0.mk (below_step (by repeat (first | (with_reducible first | exact HB.out | apply below_alloc | apply pw_below_drewN | apply below_drew1) | exact HB.out)) hb); clear HB; have HB := n0_; clear n0_; (try clear hb); (try clear hb2); (try clear hk); (try clear hi)))
    go_ret2
    exact ⟨by first | rfl | (simp [errW_none, errW_some] <;> rfl) | (simp [*, errW_none, errW_some] <;> rfl), by repeat (first | (with_reducible first | exact HB.out | apply below_alloc | apply pw_below_drewN | apply below_drew1) | exact HB.out)⟩

/-! ### gunnyref01_Bit: function 28 -/
mutual
def gunnyref01_Bit.j0 : Nat → Int → Int → Bool → Option (Bool)
  | 0, _, _, _ => none
  | k + 1, x0, x1, x11 => if x11 = true then (some false) else (gunnyref01_Bit.l0 k x0 x1 0)
def gunnyref01_Bit.l0 : Nat → Int → Int → Int → Option (Bool)
  | 0, _, _, _ => none
  | k + 1, x0, x1, x5 => if x5 < x1 then (gunnyref01_Bit.l0 k (IntKind.u64.wrap (Int.tdiv x0 2)) x1 (wrap64 (x5 + 1))) else (some ((Int.tmod x0 2) == 1))
end
def gunnyref01_Bit.f (k : Nat) (a0 : Int) (a1 : Int) : Option (Bool) := if a1 < 0 then (gunnyref01_Bit.j0 k a0 a1 true) else (gunnyref01_Bit.j0 k a0 a1 (decide (a1 > 63)))
theorem gunnyref01_Bit.mono_l : ∀ k, (∀ y0 y1 y2, LeO (gunnyref01_Bit.j0 k y0 y1 y2) (gunnyref01_Bit.j0 (k + 1) y0 y1 y2)) ∧ (∀ y0 y1 y2, LeO (gunnyref01_Bit.l0 k y0 y1 y2) (gunnyref01_Bit.l0 (k + 1) y0 y1 y2))
  | 0 => ⟨fun _ _ _ r h => by simp [gunnyref01_Bit.j0] at h, fun _ _ _ r h => by simp [gunnyref01_Bit.l0] at h⟩
  | k + 1 => by
    obtain ⟨ih0, ih1⟩ := gunnyref01_Bit.mono_l k
    refine ⟨?_, ?_⟩
    · intro y0 y1 y2
      unfold gunnyref01_Bit.j0
      repeat' first
      | (with_reducible exact ih0 _ _ _)
      | (with_reducible exact ih1 _ _ _)
      | (with_reducible exact LeO.refl _)
      | (with_reducible exact LeO.none _)
      | (with_reducible refine LeO.ite ?_ ?_)
      | (with_reducible refine LeO.bind ?_ (fun _ => ?_))
      | exact ih0 _ _ _
      | exact ih1 _ _ _
      | exact LeO.none _
      | refine LeO.ite ?_ ?_
      | refine LeO.bind ?_ (fun _ => ?_)
    · intro y0 y1 y2
      unfold gunnyref01_Bit.l0
      repeat' first
      | (with_reducible exact ih0 _ _ _)
      | (with_reducible exact ih1 _ _ _)
      | (with_reducible exact LeO.refl _)
      | (with_reducible exact LeO.none _)
      | (with_reducible refine LeO.ite ?_ ?_)
      | (with_reducible refine LeO.bind ?_ (fun _ => ?_))
      | exact ih0 _ _ _
      | exact ih1 _ _ _
      | exact LeO.none _
      | refine LeO.ite ?_ ?_
      | refine LeO.bind ?_ (fun _ => ?_)
theorem gunnyref01_Bit.mono : ∀ a0 a1 k, LeO (gunnyref01_Bit.f k a0 a1) (gunnyref01_Bit.f (k + 1) a0 a1) := by
  intro a0 a1 k
  obtain ⟨ih0, ih1⟩ := gunnyref01_Bit.mono_l k
  unfold gunnyref01_Bit.f
  repeat' first
      | (with_reducible exact ih0 _ _ _)
      | (with_reducible exact ih1 _ _ _)
      | (with_reducible exact LeO.refl _)
      | (with_reducible exact LeO.none _)
      | (with_reducible refine LeO.ite ?_ ?_)
      | (with_reducible refine LeO.bind ?_ (fun _ => ?_))
      | exact ih0 _ _ _
      | exact ih1 _ _ _
      | exact LeO.none _
      | refine LeO.ite ?_ ?_
      | refine LeO.bind ?_ (fun _ => ?_)
set_option maxHeartbeats 8000000 in
set_option maxRecDepth 100000 in
theorem gunnyref01_Bit.calls (k : Nat) (a0 : Int) (a1 : Int) (r : Bool) (w : World) (h : gunnyref01_Bit.f k a0 a1 = some r) :
    Calls Try.prog 28 #[.int .u64 a0, .int .i64 a1] w fun e w' => e = .returned (.bool r) ∧ Drawn0 w w' := by
  have H : (if a1 < 0 then (gunnyref01_Bit.j0 k a0 a1 true) else (gunnyref01_Bit.j0 k a0 a1 (decide (a1 > 63)))) = some r := h
  clear h
  have HC3 := Aside0.mk H
  clear H
  go_enter Try.func28, Try.ntmps28
  go_upto_region 1 with (fail)
  go_cut [11] (fun v11 wc => ∃ (kq : Nat) (x11_2 : Bool), v11 = .bool x11_2 ∧ Aside0 (gunnyref01_Bit.j0 kq a0 a1 x11_2 = some r) ∧ Aside0 (kq ≤ k) ∧ Drawn0 w wc)
  case first =>
    have H := HC3.out
    clear HC3
    by_cases c4 : a1 < 0
    · rw [if_pos c4] at H
      have c4b0 : decide (a1 < 0) = true := decide_eq_true c4
      clear c4
      (first | rw [c4b0] | (simp only [i64_w, i32_w]; rw [c4b0]) | skip)
      have H' := Aside0.mk H
      clear H
      go_wp2
      go_meet
      case rel => exact ⟨_, (true), (by first | rfl | (simp; done) | (simp [*]; done)), H', ⟨by first | omega | exact Nat.le_refl _⟩, by repeat (first | exact Drawn0.refl _ | apply Drawn0.step)⟩
    · rw [if_neg c4] at H
      have c4b0 : decide (a1 < 0) = false := decide_eq_false c4
      clear c4
      (first | rw [c4b0] | (simp only [i64_w, i32_w]; rw [c4b0]) | skip)
      have H' := Aside0.mk H
      clear H
      go_wp2
      go_meet
      case rel => exact ⟨_, (decide (a1 > 63)), (by first | rfl | (simp; done) | (simp [*]; done)), H', ⟨by first | omega | exact Nat.le_refl _⟩, by repeat (first | exact Drawn0.refl _ | apply Drawn0.step)⟩
  case rest =>
    clear HC3
    try clear c2
    try clear p2
    try clear c4
    try clear c4b0
    obtain ⟨kq, x11_2, rfl, HA, HJ2, ⟨mc2, rfl⟩⟩ := hcut
    cases kq with
    | zero => exact absurd HA.out (by simp [gunnyref01_Bit.j0])
    | succ kj2 =>
      have H := HA.out
      clear HA
      simp only [gunnyref01_Bit.j0] at H
      by_cases c5 : x11_2 = true
      · subst c5
        have H1 : (some false) = some r := by rw [if_pos rfl] at H; exact H
        clear H
        have H := H1
        clear H1
        obtain rfl := Option.some.inj H
        go_wp2
        go_ret
        exact ⟨by first | rfl | (simp; done) | (simp [*]; done), by repeat (first | exact Drawn0.refl _ | apply Drawn0.step)⟩
      · replace c5 := Bool.eq_false_iff.mpr c5
        subst c5
        have H1 : (gunnyref01_Bit.l0 kj2 a0 a1 0) = some r := by rw [if_neg (show ¬ (false = true) by decide)] at H; exact H
        clear H
        have H := H1
        clear H1
        have H' := Aside0.mk H
        clear H
        go_wp2
        go_loopg [0, 5] kj2 (fun kq v0 v5 w' => ∃ (x0_2 : Int) (x5_2 : Int), v0 = .int .u64 x0_2 ∧ v5 = .int .i64 x5_2 ∧ Aside0 (gunnyref01_Bit.l0 kq x0_2 a1 x5_2 = some r) ∧ Aside0 (kq ≤ kj2) ∧ Drawn0 w w')
        case atStart => exact ⟨(a0), (0), (by first | rfl | (simp; done) | (simp [*]; done)), (by first | rfl | (simp; done) | (simp [*]; done)), H', ⟨Nat.le_refl _⟩, by repeat (first | exact Drawn0.refl _ | apply Drawn0.step)⟩
        case round =>
          clear H'
          try clear c2
          try clear p2
          try clear c4
          try clear c4b0
          try clear c5
          try clear p2
          obtain ⟨x0_2, x5_2, rfl, rfl, HA, HK2, ⟨m2, rfl⟩⟩ := hrel
          cases gk with
          | zero => exact absurd HA.out (by simp [gunnyref01_Bit.l0])
          | succ k2 =>
            have H := HA.out
            clear HA
            simp only [gunnyref01_Bit.l0] at H
            by_cases c6 : x5_2 < a1
            · rw [if_pos c6] at H
              have c6b0 : decide (x5_2 < a1) = true := decide_eq_true c6
              clear c6
              have H' := Aside0.mk H
              clear H
              go_wp2
              go_roundg k2
              case measure => have := HJ2.out; have := HK2.out; omega
              case rel => exact ⟨(IntKind.u64.wrap (Int.tdiv x0_2 2)), (wrap64 (x5_2 + 1)), (by first | rfl | (simp; done) | (simp [*]; done)), (by first | rfl | (simp; done) | (simp [*]; done)), H', ⟨by have := HJ2.out; have := HK2.out; omega⟩, by repeat (first | exact Drawn0.refl _ | apply Drawn0.step)⟩
            · rw [if_neg c6] at H
              have c6b0 : decide (x5_2 < a1) = false := decide_eq_false c6
              clear c6
              obtain rfl := Option.some.inj H
              go_wp2
              go_ret
              exact ⟨by first | rfl | (simp; done) | (simp [*]; done), by repeat (first | exact Drawn0.refl _ | apply Drawn0.step)⟩

/-! ### gunnyref31_Read: function 17 -/
def gunnyref31_Read.f (k : Nat) (a0 : Int) : Option (Bool × Bool × Bool × Bool × Int × Int × Bool) := (gunnyref01_Bit.f k a0 0).bind fun t174 => ((gunnyref01_Bit.f k a0 4).bind fun t175 => ((gunnyref01_Bit.f k a0 6).bind fun t176 => ((gunnyref01_Bit.f k a0 7).bind fun t177 => ((gunnyref01_Bit.f k a0 5).bind fun t179 => (if t179 = true then (some (t174, t175, t176, t177, wrap64 (Int.tmod (IntKind.u64.wrap (Int.tdiv a0 2)) 8), wrap64 (Int.tmod (IntKind.u64.wrap (Int.tdiv a0 1024)) 17592186044416), true)) else ((gunnyref01_Bit.f k a0 8).bind fun t180 => (if t180 = true then (some (t174, t175, t176, t177, wrap64 (Int.tmod (IntKind.u64.wrap (Int.tdiv a0 2)) 8), wrap64 (Int.tmod (IntKind.u64.wrap (Int.tdiv a0 1024)) 17592186044416), true)) else ((gunnyref01_Bit.f k a0 9).bind fun t181 => (if t181 = true then (some (t174, t175, t176, t177, wrap64 (Int.tmod (IntKind.u64.wrap (Int.tdiv a0 2)) 8), wrap64 (Int.tmod (IntKind.u64.wrap (Int.tdiv a0 1024)) 17592186044416), true)) else (some (t174, t175, t176, t177, wrap64 (Int.tmod (IntKind.u64.wrap (Int.tdiv a0 2)) 8), wrap64 (Int.tmod (IntKind.u64.wrap (Int.tdiv a0 1024)) 17592186044416), ((IntKind.u64.wrap (Int.tdiv a0 18014398509481984)) != 0))))))))))))
theorem gunnyref31_Read.mono : ∀ a0 k, LeO (gunnyref31_Read.f k a0) (gunnyref31_Read.f (k + 1) a0) := by
  intro a0 k
  unfold gunnyref31_Read.f
  repeat' first
      | (with_reducible exact gunnyref01_Bit.mono _ _ _)
      | (with_reducible exact LeO.refl _)
      | (with_reducible exact LeO.none _)
      | (with_reducible refine LeO.ite ?_ ?_)
      | (with_reducible refine LeO.bind ?_ (fun _ => ?_))
      | exact gunnyref01_Bit.mono _ _ _
      | exact LeO.none _
      | refine LeO.ite ?_ ?_
      | refine LeO.bind ?_ (fun _ => ?_)
set_option maxHeartbeats 8000000 in
set_option maxRecDepth 100000 in
theorem gunnyref31_Read.calls (k : Nat) (a0 : Int) (r1 : Bool) (r2 : Bool) (r3 : Bool) (r4 : Bool) (r5 : Int) (r6 : Int) (r7 : Bool) (w : World) (h : gunnyref31_Read.f k a0 = some (r1, r2, r3, r4, r5, r6, r7)) :
    Calls Try.prog 17 #[.int .u64 a0] w fun e w' => e = .returned (.agg #[.bool r1, .bool r2, .bool r3, .bool r4, .int .i64 r5, .int .i64 r6, .bool r7]) ∧ Below w.heap.size w w' := by
  unfold gunnyref31_Read.f at h
  obtain ⟨P, hP⟩ : ∃ P, wrap64 (Int.tmod (IntKind.u64.wrap (Int.tdiv a0 2)) 8) = P := ⟨_, rfl⟩
  obtain ⟨M, hM⟩ : ∃ M, wrap64 (Int.tmod (IntKind.u64.wrap (Int.tdiv a0 1024)) 17592186044416) = M := ⟨_, rfl⟩
  obtain ⟨R, hR⟩ : ∃ R, (IntKind.u64.wrap (Int.tdiv a0 18014398509481984) != 0) = R := ⟨_, rfl⟩
  simp only [hP, hM, hR] at h
  replace h := Option.bind_eq_some_iff.mp h
  obtain ⟨t0, A0, h⟩ := h
  replace A0 := Aside0.mk A0
  replace h := Option.bind_eq_some_iff.mp h
  obtain ⟨t4, A4, h⟩ := h
  replace A4 := Aside0.mk A4
  replace h := Option.bind_eq_some_iff.mp h
  obtain ⟨t6, A6, h⟩ := h
  replace A6 := Aside0.mk A6
  replace h := Option.bind_eq_some_iff.mp h
  obtain ⟨t7, A7, h⟩ := h
  replace A7 := Aside0.mk A7
  replace h := Option.bind_eq_some_iff.mp h
  obtain ⟨t5, A5, h⟩ := h
  replace A5 := Aside0.mk A5
  cases t5 with
  | true =>
    simp only [if_true] at h
    simp only [Option.some.injEq, Prod.mk.injEq] at h
    obtain ⟨rfl, rfl, rfl, rfl, rfl, rfl, rfl⟩ := h
    go_enter Try.func17, Try.ntmps17
    go_upto_region 4 with (go_at_call 28; first | ((with_reducible refine (gunnyref01_Bit.calls k a0 0 t0 _ A0.out).mono ?_); rintro e w' ⟨rfl, ⟨nd, rfl⟩⟩) | ((with_reducible refine (gunnyref01_Bit.calls k a0 4 t4 _ A4.out).mono ?_); rintro e w' ⟨rfl, ⟨nd, rfl⟩⟩) | ((with_reducible refine (gunnyref01_Bit.calls k a0 6 t6 _ A6.out).mono ?_); rintro e w' ⟨rfl, ⟨nd, rfl⟩⟩) | ((with_reducible refine (gunnyref01_Bit.calls k a0 7 t7 _ A7.out).mono ?_); rintro e w' ⟨rfl, ⟨nd, rfl⟩⟩) | ((with_reducible refine (gunnyref01_Bit.calls k a0 5 true _ A5.out).mono ?_); rintro e w' ⟨rfl, ⟨nd, rfl⟩⟩))
    go_upto_region 5 with (go_at_call 28; first | ((with_reducible refine (gunnyref01_Bit.calls k a0 0 t0 _ A0.out).mono ?_); rintro e w' ⟨rfl, ⟨nd, rfl⟩⟩) | ((with_reducible refine (gunnyref01_Bit.calls k a0 4 t4 _ A4.out).mono ?_); rintro e w' ⟨rfl, ⟨nd, rfl⟩⟩) | ((with_reducible refine (gunnyref01_Bit.calls k a0 6 t6 _ A6.out).mono ?_); rintro e w' ⟨rfl, ⟨nd, rfl⟩⟩) | ((with_reducible refine (gunnyref01_Bit.calls k a0 7 t7 _ A7.out).mono ?_); rintro e w' ⟨rfl, ⟨nd, rfl⟩⟩) | ((with_reducible refine (gunnyref01_Bit.calls k a0 5 true _ A5.out).mono ?_); rintro e w' ⟨rfl, ⟨nd, rfl⟩⟩))
    go_wp2
    go_returns
    exact ⟨rfl, by repeat (with_reducible first | exact Below.refl _ _ | refine Below.setCell ?_ (by simp) _ | refine pw_below_drewN ?_ _ | refine below_alloc ?_ _)⟩
  | false =>
    simp only [Bool.false_eq_true, if_false] at h
    replace h := Option.bind_eq_some_iff.mp h
    obtain ⟨t8, A8, h⟩ := h
    replace A8 := Aside0.mk A8
    cases t8 with
    | true =>
      simp only [if_true] at h
      simp only [Option.some.injEq, Prod.mk.injEq] at h
      obtain ⟨rfl, rfl, rfl, rfl, rfl, rfl, rfl⟩ := h
      go_enter Try.func17, Try.ntmps17
      go_upto_region 4 with (go_at_call 28; first | ((with_reducible refine (gunnyref01_Bit.calls k a0 0 t0 _ A0.out).mono ?_); rintro e w' ⟨rfl, ⟨nd, rfl⟩⟩) | ((with_reducible refine (gunnyref01_Bit.calls k a0 4 t4 _ A4.out).mono ?_); rintro e w' ⟨rfl, ⟨nd, rfl⟩⟩) | ((with_reducible refine (gunnyref01_Bit.calls k a0 6 t6 _ A6.out).mono ?_); rintro e w' ⟨rfl, ⟨nd, rfl⟩⟩) | ((with_reducible refine (gunnyref01_Bit.calls k a0 7 t7 _ A7.out).mono ?_); rintro e w' ⟨rfl, ⟨nd, rfl⟩⟩) | ((with_reducible refine (gunnyref01_Bit.calls k a0 5 false _ A5.out).mono ?_); rintro e w' ⟨rfl, ⟨nd, rfl⟩⟩) | ((with_reducible refine (gunnyref01_Bit.calls k a0 8 true _ A8.out).mono ?_); rintro e w' ⟨rfl, ⟨nd, rfl⟩⟩))
      go_upto_region 5 with (go_at_call 28; first | ((with_reducible refine (gunnyref01_Bit.calls k a0 0 t0 _ A0.out).mono ?_); rintro e w' ⟨rfl, ⟨nd, rfl⟩⟩) | ((with_reducible refine (gunnyref01_Bit.calls k a0 4 t4 _ A4.out).mono ?_); rintro e w' ⟨rfl, ⟨nd, rfl⟩⟩) | ((with_reducible refine (gunnyref01_Bit.calls k a0 6 t6 _ A6.out).mono ?_); rintro e w' ⟨rfl, ⟨nd, rfl⟩⟩) | ((with_reducible refine (gunnyref01_Bit.calls k a0 7 t7 _ A7.out).mono ?_); rintro e w' ⟨rfl, ⟨nd, rfl⟩⟩) | ((with_reducible refine (gunnyref01_Bit.calls k a0 5 false _ A5.out).mono ?_); rintro e w' ⟨rfl, ⟨nd, rfl⟩⟩) | ((with_reducible refine (gunnyref01_Bit.calls k a0 8 true _ A8.out).mono ?_); rintro e w' ⟨rfl, ⟨nd, rfl⟩⟩))
      go_wp2
      go_returns
      exact ⟨rfl, by repeat (with_reducible first | exact Below.refl _ _ | refine Below.setCell ?_ (by simp) _ | refine pw_below_drewN ?_ _ | refine below_alloc ?_ _)⟩
    | false =>
      simp only [Bool.false_eq_true, if_false] at h
      replace h := Option.bind_eq_some_iff.mp h
      obtain ⟨t9, A9, h⟩ := h
      replace A9 := Aside0.mk A9
      cases t9 with
      | true =>
        simp only [if_true] at h
        simp only [Option.some.injEq, Prod.mk.injEq] at h
        obtain ⟨rfl, rfl, rfl, rfl, rfl, rfl, rfl⟩ := h
        go_enter Try.func17, Try.ntmps17
        go_upto_region 4 with (go_at_call 28; first | ((with_reducible refine (gunnyref01_Bit.calls k a0 0 t0 _ A0.out).mono ?_); rintro e w' ⟨rfl, ⟨nd, rfl⟩⟩) | ((with_reducible refine (gunnyref01_Bit.calls k a0 4 t4 _ A4.out).mono ?_); rintro e w' ⟨rfl, ⟨nd, rfl⟩⟩) | ((with_reducible refine (gunnyref01_Bit.calls k a0 6 t6 _ A6.out).mono ?_); rintro e w' ⟨rfl, ⟨nd, rfl⟩⟩) | ((with_reducible refine (gunnyref01_Bit.calls k a0 7 t7 _ A7.out).mono ?_); rintro e w' ⟨rfl, ⟨nd, rfl⟩⟩) | ((with_reducible refine (gunnyref01_Bit.calls k a0 5 false _ A5.out).mono ?_); rintro e w' ⟨rfl, ⟨nd, rfl⟩⟩) | ((with_reducible refine (gunnyref01_Bit.calls k a0 8 false _ A8.out).mono ?_); rintro e w' ⟨rfl, ⟨nd, rfl⟩⟩) | ((with_reducible refine (gunnyref01_Bit.calls k a0 9 true _ A9.out).mono ?_); rintro e w' ⟨rfl, ⟨nd, rfl⟩⟩))
        go_upto_region 5 with (go_at_call 28; first | ((with_reducible refine (gunnyref01_Bit.calls k a0 0 t0 _ A0.out).mono ?_); rintro e w' ⟨rfl, ⟨nd, rfl⟩⟩) | ((with_reducible refine (gunnyref01_Bit.calls k a0 4 t4 _ A4.out).mono ?_); rintro e w' ⟨rfl, ⟨nd, rfl⟩⟩) | ((with_reducible refine (gunnyref01_Bit.calls k a0 6 t6 _ A6.out).mono ?_); rintro e w' ⟨rfl, ⟨nd, rfl⟩⟩) | ((with_reducible refine (gunnyref01_Bit.calls k a0 7 t7 _ A7.out).mono ?_); rintro e w' ⟨rfl, ⟨nd, rfl⟩⟩) | ((with_reducible refine (gunnyref01_Bit.calls k a0 5 false _ A5.out).mono ?_); rintro e w' ⟨rfl, ⟨nd, rfl⟩⟩) | ((with_reducible refine (gunnyref01_Bit.calls k a0 8 false _ A8.out).mono ?_); rintro e w' ⟨rfl, ⟨nd, rfl⟩⟩) | ((with_reducible refine (gunnyref01_Bit.calls k a0 9 true _ A9.out).mono ?_); rintro e w' ⟨rfl, ⟨nd, rfl⟩⟩))
        go_wp2
        go_returns
        exact ⟨rfl, by repeat (with_reducible first | exact Below.refl _ _ | refine Below.setCell ?_ (by simp) _ | refine pw_below_drewN ?_ _ | refine below_alloc ?_ _)⟩
      | false =>
        simp only [Bool.false_eq_true, if_false] at h
        simp only [Option.some.injEq, Prod.mk.injEq] at h
        obtain ⟨rfl, rfl, rfl, rfl, rfl, rfl, rfl⟩ := h
        go_enter Try.func17, Try.ntmps17
        go_upto_region 4 with (go_at_call 28; first | ((with_reducible refine (gunnyref01_Bit.calls k a0 0 t0 _ A0.out).mono ?_); rintro e w' ⟨rfl, ⟨nd, rfl⟩⟩) | ((with_reducible refine (gunnyref01_Bit.calls k a0 4 t4 _ A4.out).mono ?_); rintro e w' ⟨rfl, ⟨nd, rfl⟩⟩) | ((with_reducible refine (gunnyref01_Bit.calls k a0 6 t6 _ A6.out).mono ?_); rintro e w' ⟨rfl, ⟨nd, rfl⟩⟩) | ((with_reducible refine (gunnyref01_Bit.calls k a0 7 t7 _ A7.out).mono ?_); rintro e w' ⟨rfl, ⟨nd, rfl⟩⟩) | ((with_reducible refine (gunnyref01_Bit.calls k a0 5 false _ A5.out).mono ?_); rintro e w' ⟨rfl, ⟨nd, rfl⟩⟩) | ((with_reducible refine (gunnyref01_Bit.calls k a0 8 false _ A8.out).mono ?_); rintro e w' ⟨rfl, ⟨nd, rfl⟩⟩) | ((with_reducible refine (gunnyref01_Bit.calls k a0 9 false _ A9.out).mono ?_); rintro e w' ⟨rfl, ⟨nd, rfl⟩⟩))
        go_upto_region 5 with (go_at_call 28; first | ((with_reducible refine (gunnyref01_Bit.calls k a0 0 t0 _ A0.out).mono ?_); rintro e w' ⟨rfl, ⟨nd, rfl⟩⟩) | ((with_reducible refine (gunnyref01_Bit.calls k a0 4 t4 _ A4.out).mono ?_); rintro e w' ⟨rfl, ⟨nd, rfl⟩⟩) | ((with_reducible refine (gunnyref01_Bit.calls k a0 6 t6 _ A6.out).mono ?_); rintro e w' ⟨rfl, ⟨nd, rfl⟩⟩) | ((with_reducible refine (gunnyref01_Bit.calls k a0 7 t7 _ A7.out).mono ?_); rintro e w' ⟨rfl, ⟨nd, rfl⟩⟩) | ((with_reducible refine (gunnyref01_Bit.calls k a0 5 false _ A5.out).mono ?_); rintro e w' ⟨rfl, ⟨nd, rfl⟩⟩) | ((with_reducible refine (gunnyref01_Bit.calls k a0 8 false _ A8.out).mono ?_); rintro e w' ⟨rfl, ⟨nd, rfl⟩⟩) | ((with_reducible refine (gunnyref01_Bit.calls k a0 9 false _ A9.out).mono ?_); rintro e w' ⟨rfl, ⟨nd, rfl⟩⟩))
        go_wp2
        go_returns
        exact ⟨rfl, by repeat (with_reducible first | exact Below.refl _ _ | refine Below.setCell ?_ (by simp) _ | refine pw_below_drewN ?_ _ | refine below_alloc ?_ _)⟩
end Go.Proofs.Ytcadfblcpfhjfaa.R
