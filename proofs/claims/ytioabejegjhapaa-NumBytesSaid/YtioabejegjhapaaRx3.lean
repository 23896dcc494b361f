-- written for this claim by a program (a patched print)
import Derived.Test.YtioabejegjhapaaRx0
import Derived.Test.YtioabejegjhapaaRx1
import Derived.Test.YtioabejegjhapaaRx2
namespace Go.Proofs.Ytioabejegjhapaa.R
open Go.RowKit Go.Proofs.YtioabejegjhapaaW.PrintWords Go.Proofs.YtioabejegjhapaaW.PrintLast Go.Proofs.YtioabejegjhapaaW.PrintMore
attribute [local go_sem] max2_int min2_int max_two min_two max_three min_three max_four min_four   -- for this text's walks alone
set_option linter.unusedVariables false
set_option linter.unusedSimpArgs false

/-! ### gunnylaw01_NumBytes: function 5 -/
mutual
def gunnylaw01_NumBytes.j0 : Nat → List Int → List Int → Int → Int → Bool → Option (Bool)
  | 0, _, _, _, _, _ => none
  | k + 1, x0, x2, x7, x8, x29 => if x29 = true then ((gunnylaw01_lives.f k).bind fun t132 => (some t132)) else (gunnylaw01_NumBytes.l0 k x0 x2 x7 x8 ([] : List Int) 0)
def gunnylaw01_NumBytes.j2 : Nat → List Int → List Int → Int → Int → List Int → Option (Bool)
  | 0, _, _, _, _, _ => none
  | k + 1, x0, x2, x7, x8, x9 => (num_Put.f k x8 x2).bind fun t140 => ((gunnyref01_Bytes.f t140 x9).bind fun t143 => (if t143 = true then (if (x2.length : Int) > 0 then (if 0 < (x2.length : Int) then (gunnylaw01_NumBytes.j3 k x0 x7 x8 (strOfNums x0) (rd x2 0)) else (none)) else (gunnylaw01_NumBytes.j3 k x0 x7 x8 (strOfNums x0) (IntKind.u64.wrap ((x0.length : Int))))) else (some false)))
def gunnylaw01_NumBytes.j3 : Nat → List Int → Int → Int → ByteArray → Int → Option (Bool)
  | 0, _, _, _, _, _ => none
  | k + 1, x0, x7, x8, x11, x12 => (num_Get.f k x0 x7 x8).bind fun bt145 => ((num_Lay.f x0 x7 x8 x12).bind fun bt147 => ((gunnyref01_There.f x0 x7 x8).bind fun t151 => (if t151 = true then (if 0 ≤ x7 then (if x7 ≤ (x11.size : Int) then ((gunnyref01_Put.f k x8 x12).bind fun t152 => (if (x11.extract 0 (x7 : Int).toNat).size + (strOfNums t152).size ≤ 9223372036854775807 then (if 0 ≤ (wrap64 (x7 + x8)) then (if (wrap64 (x7 + x8)) ≤ (x11.size : Int) then (if ((x11.extract 0 (x7 : Int).toNat) ++ (strOfNums t152)).size + (x11.extract ((wrap64 (x7 + x8)) : Int).toNat x11.size).size ≤ 9223372036854775807 then (if bt145.2 = true then (if bt147.2 = true then ((gunnyref01_Get.f k x0 x7 x8).bind fun t155 => (if bt145.1 = t155 then (if (strOfNums bt147.1).toList = (((x11.extract 0 (x7 : Int).toNat) ++ (strOfNums t152)) ++ (x11.extract ((wrap64 (x7 + x8)) : Int).toNat x11.size)).toList then (if (strOfNums x0).toList = x11.toList then ((gunnylaw01_lives.f k).bind fun t156 => (some t156)) else (some false)) else (some false)) else (some false))) else (some false)) else (some false)) else (none)) else (none)) else (none)) else (none))) else (none)) else (none)) else (if bt145.2 = true then (some false) else (if bt147.2 = true then (some false) else (if bt145.1 = 0 then (if (bt147.1.length : Int) = 0 then ((gunnylaw01_lives.f k).bind fun t157 => (some t157)) else (some false)) else (some false)))))))
def gunnylaw01_NumBytes.l0 : Nat → List Int → List Int → Int → Int → List Int → Int → Option (Bool)
  | 0, _, _, _, _, _, _ => none
  | k + 1, x0, x2, x7, x8, x9, x10 => if x10 < (x2.length : Int) then (if x8 ≥ 1 then (if x8 ≤ 8 then (if 0 ≤ x10 then ((gunnyref01_Put.f k x8 (rd x2 x10)).bind fun t134 => (if x9.length + t134.length < 140737488355328 then (gunnylaw01_NumBytes.l0 k x0 x2 x7 x8 (x9 ++ t134) (wrap64 (x10 + 1))) else (none))) else (none)) else (gunnylaw01_NumBytes.j2 k x0 x2 x7 x8 x9)) else (gunnylaw01_NumBytes.j2 k x0 x2 x7 x8 x9)) else (gunnylaw01_NumBytes.j2 k x0 x2 x7 x8 x9)
end
def gunnylaw01_NumBytes.f (k : Nat) (l0 : List Int) (a1 : Int) (l2 : List Int) (a3 : Int) : Option (Bool) := if (l0.length : Int) > 300 then (gunnylaw01_NumBytes.j0 k l0 l2 a1 a3 true) else (gunnylaw01_NumBytes.j0 k l0 l2 a1 a3 (decide ((l2.length : Int) > 50)))
theorem gunnylaw01_NumBytes.mono_l : ∀ k, (∀ y0 y1 y2 y3 y4, LeO (gunnylaw01_NumBytes.j0 k y0 y1 y2 y3 y4) (gunnylaw01_NumBytes.j0 (k + 1) y0 y1 y2 y3 y4)) ∧ (∀ y0 y1 y2 y3 y4, LeO (gunnylaw01_NumBytes.j2 k y0 y1 y2 y3 y4) (gunnylaw01_NumBytes.j2 (k + 1) y0 y1 y2 y3 y4)) ∧ (∀ y0 y1 y2 y3 y4, LeO (gunnylaw01_NumBytes.j3 k y0 y1 y2 y3 y4) (gunnylaw01_NumBytes.j3 (k + 1) y0 y1 y2 y3 y4)) ∧ (∀ y0 y1 y2 y3 y4 y5, LeO (gunnylaw01_NumBytes.l0 k y0 y1 y2 y3 y4 y5) (gunnylaw01_NumBytes.l0 (k + 1) y0 y1 y2 y3 y4 y5))
  | 0 => ⟨fun _ _ _ _ _ r h => by simp [gunnylaw01_NumBytes.j0] at h, fun _ _ _ _ _ r h => by simp [gunnylaw01_NumBytes.j2] at h, fun _ _ _ _ _ r h => by simp [gunnylaw01_NumBytes.j3] at h, fun _ _ _ _ _ _ r h => by simp [gunnylaw01_NumBytes.l0] at h⟩
  | k + 1 => by
    obtain ⟨ih0, ih1, ih2, ih3⟩ := gunnylaw01_NumBytes.mono_l k
    refine ⟨?_, ?_, ?_, ?_⟩
    · intro y0 y1 y2 y3 y4
      unfold gunnylaw01_NumBytes.j0
      repeat' first
      | (with_reducible exact ih0 _ _ _ _ _)
      | (with_reducible exact ih1 _ _ _ _ _)
      | (with_reducible exact ih2 _ _ _ _ _)
      | (with_reducible exact ih3 _ _ _ _ _ _)
      | (with_reducible exact gunnylaw01_lives.mono _)
      | (with_reducible exact gunnyref01_Get.mono _ _ _ _)
      | (with_reducible exact gunnyref01_Put.mono _ _ _)
      | (with_reducible exact num_Get.mono _ _ _ _)
      | (with_reducible exact num_Put.mono _ _ _)
      | (with_reducible exact LeO.refl _)
      | (with_reducible exact LeO.none _)
      | (with_reducible refine LeO.ite ?_ ?_)
      | (with_reducible refine LeO.bind ?_ (fun _ => ?_))
      | exact ih0 _ _ _ _ _
      | exact ih1 _ _ _ _ _
      | exact ih2 _ _ _ _ _
      | exact ih3 _ _ _ _ _ _
      | exact gunnylaw01_lives.mono _
      | exact gunnyref01_Get.mono _ _ _ _
      | exact gunnyref01_Put.mono _ _ _
      | exact num_Get.mono _ _ _ _
      | exact num_Put.mono _ _ _
      | exact LeO.none _
      | refine LeO.ite ?_ ?_
      | refine LeO.bind ?_ (fun _ => ?_)
    · intro y0 y1 y2 y3 y4
      unfold gunnylaw01_NumBytes.j2
      repeat' first
      | (with_reducible exact ih0 _ _ _ _ _)
      | (with_reducible exact ih1 _ _ _ _ _)
      | (with_reducible exact ih2 _ _ _ _ _)
      | (with_reducible exact ih3 _ _ _ _ _ _)
      | (with_reducible exact gunnylaw01_lives.mono _)
      | (with_reducible exact gunnyref01_Get.mono _ _ _ _)
      | (with_reducible exact gunnyref01_Put.mono _ _ _)
      | (with_reducible exact num_Get.mono _ _ _ _)
      | (with_reducible exact num_Put.mono _ _ _)
      | (with_reducible exact LeO.refl _)
      | (with_reducible exact LeO.none _)
      | (with_reducible refine LeO.ite ?_ ?_)
      | (with_reducible refine LeO.bind ?_ (fun _ => ?_))
      | exact ih0 _ _ _ _ _
      | exact ih1 _ _ _ _ _
      | exact ih2 _ _ _ _ _
      | exact ih3 _ _ _ _ _ _
      | exact gunnylaw01_lives.mono _
      | exact gunnyref01_Get.mono _ _ _ _
      | exact gunnyref01_Put.mono _ _ _
      | exact num_Get.mono _ _ _ _
      | exact num_Put.mono _ _ _
      | exact LeO.none _
      | refine LeO.ite ?_ ?_
      | refine LeO.bind ?_ (fun _ => ?_)
    · intro y0 y1 y2 y3 y4
      unfold gunnylaw01_NumBytes.j3
      repeat' first
      | (with_reducible exact ih0 _ _ _ _ _)
      | (with_reducible exact ih1 _ _ _ _ _)
      | (with_reducible exact ih2 _ _ _ _ _)
      | (with_reducible exact ih3 _ _ _ _ _ _)
      | (with_reducible exact gunnylaw01_lives.mono _)
      | (with_reducible exact gunnyref01_Get.mono _ _ _ _)
      | (with_reducible exact gunnyref01_Put.mono _ _ _)
      | (with_reducible exact num_Get.mono _ _ _ _)
      | (with_reducible exact num_Put.mono _ _ _)
      | (with_reducible exact LeO.refl _)
      | (with_reducible exact LeO.none _)
      | (with_reducible refine LeO.ite ?_ ?_)
      | (with_reducible refine LeO.bind ?_ (fun _ => ?_))
      | exact ih0 _ _ _ _ _
      | exact ih1 _ _ _ _ _
      | exact ih2 _ _ _ _ _
      | exact ih3 _ _ _ _ _ _
      | exact gunnylaw01_lives.mono _
      | exact gunnyref01_Get.mono _ _ _ _
      | exact gunnyref01_Put.mono _ _ _
      | exact num_Get.mono _ _ _ _
      | exact num_Put.mono _ _ _
      | exact LeO.none _
      | refine LeO.ite ?_ ?_
      | refine LeO.bind ?_ (fun _ => ?_)
    · intro y0 y1 y2 y3 y4 y5
      unfold gunnylaw01_NumBytes.l0
      repeat' first
      | (with_reducible exact ih0 _ _ _ _ _)
      | (with_reducible exact ih1 _ _ _ _ _)
      | (with_reducible exact ih2 _ _ _ _ _)
      | (with_reducible exact ih3 _ _ _ _ _ _)
      | (with_reducible exact gunnylaw01_lives.mono _)
      | (with_reducible exact gunnyref01_Get.mono _ _ _ _)
      | (with_reducible exact gunnyref01_Put.mono _ _ _)
      | (with_reducible exact num_Get.mono _ _ _ _)
      | (with_reducible exact num_Put.mono _ _ _)
      | (with_reducible exact LeO.refl _)
      | (with_reducible exact LeO.none _)
      | (with_reducible refine LeO.ite ?_ ?_)
      | (with_reducible refine LeO.bind ?_ (fun _ => ?_))
      | exact ih0 _ _ _ _ _
      | exact ih1 _ _ _ _ _
      | exact ih2 _ _ _ _ _
      | exact ih3 _ _ _ _ _ _
      | exact gunnylaw01_lives.mono _
      | exact gunnyref01_Get.mono _ _ _ _
      | exact gunnyref01_Put.mono _ _ _
      | exact num_Get.mono _ _ _ _
      | exact num_Put.mono _ _ _
      | exact LeO.none _
      | refine LeO.ite ?_ ?_
      | refine LeO.bind ?_ (fun _ => ?_)
theorem gunnylaw01_NumBytes.mono : ∀ a0 a1 a2 a3 k, LeO (gunnylaw01_NumBytes.f k a0 a1 a2 a3) (gunnylaw01_NumBytes.f (k + 1) a0 a1 a2 a3) := by
  intro a0 a1 a2 a3 k
  obtain ⟨ih0, ih1, ih2, ih3⟩ := gunnylaw01_NumBytes.mono_l k
  unfold gunnylaw01_NumBytes.f
  repeat' first
      | (with_reducible exact ih0 _ _ _ _ _)
      | (with_reducible exact ih1 _ _ _ _ _)
      | (with_reducible exact ih2 _ _ _ _ _)
      | (with_reducible exact ih3 _ _ _ _ _ _)
      | (with_reducible exact gunnylaw01_lives.mono _)
      | (with_reducible exact gunnyref01_Get.mono _ _ _ _)
      | (with_reducible exact gunnyref01_Put.mono _ _ _)
      | (with_reducible exact num_Get.mono _ _ _ _)
      | (with_reducible exact num_Put.mono _ _ _)
      | (with_reducible exact LeO.refl _)
      | (with_reducible exact LeO.none _)
      | (with_reducible refine LeO.ite ?_ ?_)
      | (with_reducible refine LeO.bind ?_ (fun _ => ?_))
      | exact ih0 _ _ _ _ _
      | exact ih1 _ _ _ _ _
      | exact ih2 _ _ _ _ _
      | exact ih3 _ _ _ _ _ _
      | exact gunnylaw01_lives.mono _
      | exact gunnyref01_Get.mono _ _ _ _
      | exact gunnyref01_Put.mono _ _ _
      | exact num_Get.mono _ _ _ _
      | exact num_Put.mono _ _ _
      | exact LeO.none _
      | refine LeO.ite ?_ ?_
      | refine LeO.bind ?_ (fun _ => ?_)
def gunnylaw01_NumBytes.T19 : Bool × List (List Nat × List Nat) := (true, [([], []), ([], []), ([0, 1], [0, 1]), ([], []), ([], []), ([3, 4], [3, 4]), ([5], [5]), ([2, 6], [2, 6]), ([], []), ([], []), ([], []), ([9, 10], [9, 10]), ([8, 11], [8, 11]), ([7, 12], [7, 12]), ([13, 5, 0, 1, 2, 3, 4, 5, 6, 7, 8, 9, 10, 11, 12, 13], [13])])
def gunnylaw01_NumBytes.B19 : List Nat := [0, 0, 3, 0, 0, 24, 56, 127, 0, 0, 0, 1536, 3840, 8191, 16383]
theorem gunnylaw01_NumBytes.tab19 : rtab .any (opsOf Try.f5 19) = gunnylaw01_NumBytes.T19 := by kernel_rfl
theorem gunnylaw01_NumBytes.bits19 : waitsOk gunnylaw01_NumBytes.T19.2 gunnylaw01_NumBytes.B19 = true := by kernel_rfl
theorem not_tt : ¬ ((some false : Option Bool) = some true) := by decide
set_option maxHeartbeats 8000000 in
set_option maxRecDepth 100000 in
theorem gunnylaw01_NumBytes.calls (k : Nat) (A0 : Option Addr) (c0 : Nat) (l0 : List Int) (a1 : Int) (A2 : Option Addr) (c2 : Nat) (l2 : List Int) (a3 : Int) (w : World) (hr0 : Kd.C (Kd.int .u8) w A0 l0.length l0) (hc0 : l0.length ≤ c0) (hr2 : Kd.C (Kd.int .u64) w A2 l2.length l2) (hc2 : l2.length ≤ c2) (h : gunnylaw01_NumBytes.f k l0 a1 l2 a3 = some true) :
    Calls Try.prog 5 #[.slice A0 l0.length c0, .agg #[.int .i64 a1, .int .i64 a3], .slice A2 l2.length c2] w fun e w' => e = .returned (.bool true) ∧ Below w.heap.size w w' := by
  have HR0 := Aside0.mk hr0
  have HC0 := Aside0.mk hc0
  clear hr0 hc0
  have HR2 := Aside0.mk hr2
  have HC2 := Aside0.mk hc2
  clear hr2 hc2
  have HB := Aside0.mk (Below.refl w.heap.size w)
  have H : (if (l0.length : Int) > 300 then (gunnylaw01_NumBytes.j0 k l0 l2 a1 a3 true) else (gunnylaw01_NumBytes.j0 k l0 l2 a1 a3 (decide ((l2.length : Int) > 50)))) = some true := h
  clear h
  have HC5 := Aside0.mk H
  clear H
  go_enter Try.func5, Try.ntmps5
  go_upto_region 1 with (fail)
  go_quiet (fail)
  go_upto_region 2 with (fail)
  go_cut [29] (fun v29 wc => ∃ (kq : Nat) (x29_4 : Bool), v29 = .bool x29_4 ∧ Aside0 (gunnylaw01_NumBytes.j0 kq l0 l2 a1 a3 x29_4 = some true) ∧ Aside0 (kq ≤ k) ∧ Aside0 (Below w.heap.size w wc))
  case first =>
    have H := HC5.out
    clear HC5
    by_cases c6 : (l0.length : Int) > 300
    · rw [if_pos c6] at H
      have c6b0 : decide (300 < (l0.length : Int)) = true := decide_eq_true c6
      have c6b1 : decide (300 < l0.length) = true := decide_eq_true (by omega)
      clear c6
      (first | rw [c6b0] | rw [c6b1] | (simp only [i64_w, i32_w]; rw [c6b0]) | skip)
      have H' := Aside0.mk H
      clear H
      go_wp2
      go_meet
      case rel => exact ⟨_, (true), (by first | rfl | (simp; done) | (simp [*]; done)), H', ⟨by first | omega | exact Nat.le_refl _⟩, ⟨by repeat (first | (with_reducible first | exact HB.out | apply below_alloc | apply pw_below_drewN | apply below_drew1) | exact HB.out)⟩⟩
    · rw [if_neg c6] at H
      have c6b0 : decide (300 < (l0.length : Int)) = false := decide_eq_false c6
      have c6b1 : decide (300 < l0.length) = false := decide_eq_false (by omega)
      clear c6
      (first | rw [c6b0] | rw [c6b1] | (simp only [i64_w, i32_w]; rw [c6b0]) | skip)
      have H' := Aside0.mk H
      clear H
      go_wp2
      go_meet
      case rel => exact ⟨_, (decide ((l2.length : Int) > 50)), (by first | rfl | (simp; done) | (simp [*]; done)), H', ⟨by first | omega | exact Nat.le_refl _⟩, ⟨by repeat (first | (with_reducible first | exact HB.out | apply below_alloc | apply pw_below_drewN | apply below_drew1) | exact HB.out)⟩⟩
  case rest =>
    clear HC5
    try clear c2
    try clear p2
    try clear c5
    try clear c6
    try clear c6b0
    try clear c6b1
    obtain ⟨kq, x29_4, rfl, HA, HJ4, HB⟩ := hcut
    cases kq with
    | zero => exact absurd HA.out (by simp [gunnylaw01_NumBytes.j0])
    | succ kj4 =>
      have H := HA.out
      clear HA
      simp only [gunnylaw01_NumBytes.j0] at H
      by_cases c7 : x29_4 = true
      · subst c7
        have H1 : ((gunnylaw01_lives.f kj4).bind fun t132 => (some t132)) = some true := by rw [if_pos rfl] at H; exact H
        clear H
        have H := H1
        clear H1
        replace H := Option.bind_eq_some_iff.mp H
        obtain ⟨t132, A80, H⟩ := H
        replace H : (some t132) = some true := H
        have A8 := Aside0.mk A80
        clear A80
        obtain rfl := Option.some.inj H
        go_wp2_with (first | ((with_reducible refine gate_callee (f := 9) rfl ?_); refine goesL_ (some 30) rfl rfl Try.func9 (by kernel_rfl) rfl #[] rfl (by (try simp only [List.map_toArray, List.map_cons, List.map_nil]); first | done | rfl | (simp only [List.length_drop, List.length_take]; rfl)) ?_; (with_reducible refine (gunnylaw01_lives.calls kj4  true _ A8.out).mono ?_); rintro e w9 ⟨rfl, hb⟩; refine ⟨_, rfl, ?_⟩; have n0_ := Aside0.mk (below_step (by repeat (first | (with_reducible first | exact HB.out | apply below_alloc | apply pw_below_drewN | apply below_drew1) | exact HB.out)) hb); clear HB; have HB := n0_; clear n0_; (try clear hb); (try clear hb2); (try clear hk); (try clear hi)))
        go_ret
        exact ⟨by first | rfl | (simp [errW_none, errW_some] <;> rfl) | (simp [*, errW_none, errW_some] <;> rfl), by repeat (first | (with_reducible first | exact HB.out | apply below_alloc | apply pw_below_drewN | apply below_drew1) | exact HB.out)⟩
      · replace c7 := Bool.eq_false_iff.mpr c7
        subst c7
        have H1 : (gunnylaw01_NumBytes.l0 kj4 l0 l2 a1 a3 ([] : List Int) 0) = some true := by rw [if_neg (show ¬ (false = true) by decide)] at H; exact H
        clear H
        have H := H1
        clear H1
        have HC10 := Aside0.mk H
        clear H
        go_upto_block 0 with (fail)
        go_cut [9] (fun v9 wc => ∃ (kq : Nat) (x9_9 : List Int), Aside0 (gunnylaw01_NumBytes.j2 kq l0 l2 a1 a3 x9_9 = some true) ∧ Aside0 (kq ≤ kj4) ∧ Aside0 (Kd.R (Kd.int .u8) 5 wc w.heap.size (fun _ => True) v9 x9_9) ∧ Aside0 (Below w.heap.size w wc))
        case first =>
          have H := HC10.out
          clear HC10
          have H' := Aside0.mk H
          clear H
          go_wp2
          go_loopg [9, 10] kj4 (fun kq v9 v10 w' => ∃ (x9_2 : List Int) (x10_2 : Int), v10 = .int .i64 x10_2 ∧ Aside0 (gunnylaw01_NumBytes.l0 kq l0 l2 a1 a3 x9_2 x10_2 = some true) ∧ Aside0 (kq ≤ kj4) ∧ Aside0 (Kd.R (Kd.int .u8) 5 w' w.heap.size (fun _ => True) v9 x9_2) ∧ Aside0 (Below w.heap.size w w'))
          case atStart => exact ⟨(([] : List Int)), (0), (by first | rfl | (simp; done) | (simp [*]; done)), H', ⟨Nat.le_refl _⟩, ⟨by first | exact Kd.R_nil _ _ _ _ _ | exact Kd.N_nil _ _ _ _ _ | exact Kd.V_nil _ _ _ _ _ | exact Kd.Q_nil _ _ _ _ _ | exact Kd.S_nil _ _ _ _ _⟩, ⟨by repeat (first | (with_reducible first | exact HB.out | apply below_alloc | apply pw_below_drewN | apply below_drew1) | exact HB.out)⟩⟩
          case round =>
            clear H'
            try clear c2
            try clear p2
            try clear c5
            try clear c6
            try clear c6b0
            try clear c6b1
            try clear c7
            try clear c9
            try clear p2
            obtain ⟨x9_2, x10_2, rfl, HA, HK2, HO_9, HB⟩ := hrel
            cases gk with
            | zero => exact absurd HA.out (by simp [gunnylaw01_NumBytes.l0])
            | succ k2 =>
              have H := HA.out
              clear HA
              simp only [gunnylaw01_NumBytes.l0] at H
              by_cases c11 : x10_2 < (l2.length : Int)
              · rw [if_pos c11] at H
                have c11b0 : decide (x10_2 < (l2.length : Int)) = true := decide_eq_true c11
                clear c11
                (first | rw [c11b0] | rw [c11b1] | (simp only [i64_w, i32_w]; rw [c11b0]) | skip)
                by_cases c12 : a3 ≥ 1
                · rw [if_pos c12] at H
                  have c12b0 : decide (1 ≤ a3) = true := decide_eq_true c12
                  clear c12
                  by_cases c13 : a3 ≤ 8
                  · rw [if_pos c13] at H
                    have c13b0 : decide (a3 ≤ 8) = true := decide_eq_true c13
                    clear c13
                    by_cases c14 : 0 ≤ x10_2
                    · rw [if_pos c14] at H
                      have c14b0 : decide (0 ≤ x10_2) = true := decide_eq_true c14
                      clear c14
                      replace H := Option.bind_eq_some_iff.mp H
                      obtain ⟨t134, A150, H⟩ := H
                      replace H : (if x9_2.length + t134.length < 140737488355328 then (gunnylaw01_NumBytes.l0 k2 l0 l2 a1 a3 (x9_2 ++ t134) (wrap64 (x10_2 + 1))) else (none)) = some true := H
                      have A15 := Aside0.mk A150
                      clear A150
                      by_cases c16 : x9_2.length + t134.length < 140737488355328
                      · rw [if_pos c16] at H
                        have LMc16 := Aside0.mk c16
                        clear c16
                        obtain ⟨y137, hy137⟩ : ∃ y_ : List Int, y_ = (x9_2 ++ t134) := ⟨_, rfl⟩
                        replace H : (gunnylaw01_NumBytes.l0 k2 l0 l2 a1 a3 y137 (wrap64 (x10_2 + 1))) = some true := by first | (rw [hy137]; with_reducible exact H) | (have H2_ := (Option.bind_some _ _).symm.trans H; rw [hy137]; with_reducible exact H2_) | (have H2_ := (Option.bind_some _ _).symm.trans H; with_reducible exact H2_) | with_reducible exact H | (rw [hy137]; exact H) | exact H
                        have Ny137 := Aside0.mk hy137
                        clear hy137
                        have H' := Aside0.mk H
                        clear H
                        have p133 : 0 ≤ (x10_2 : Int) := of_decide_eq_true (by first | (with_reducible assumption) | assumption)
                        have q133 : x10_2 < (l2.length : Int) := of_decide_eq_true (by first | (with_reducible assumption) | assumption)
                        obtain ⟨ad133, e133, hx133_0⟩ := Kd.at_int HR2.out x10_2 p133 q133
                        cases e133
                        replace hx133_0 := (HB.out.cell (World.block_lt_of_cell? w _ hx133_0)).trans hx133_0
                        replace p133 := eq_true p133
                        replace q133 := eq_true q133
                        go_wp2_with (first | ((with_reducible refine gate_callee (f := 17) rfl ?_); refine goesL_ (some 51) rfl rfl Try.func17 (by kernel_rfl) rfl #[.int .i64 a3, .int .u64 (rd l2 x10_2)] rfl (by (try simp only [List.map_toArray, List.map_cons, List.map_nil]); first | done | rfl | (simp only [List.length_drop, List.length_take]; rfl)) ?_; (with_reducible refine (gunnyref01_Put.calls k2 a3 (rd l2 x10_2) t134 _ A15.out).mono ?_); rintro e w17 ⟨v135, rfl, ho0, hb⟩; refine ⟨_, rfl, ?_⟩; have n0_ := Aside0.mk (Kd.R_elder' (by (with_reducible repeat (first | apply Kd.R_alloc | apply Kd.R_drewN | apply Kd.R_drew)); exact HO_9.out) (Kd.R_base ho0) hb); have n1_ := Aside0.mk (Kd.R_lower (Kd.R_new' ho0 (Kd.R_lt (by (with_reducible repeat (first | apply Kd.R_alloc | apply Kd.R_drewN | apply Kd.R_drew)); exact HO_9.out))) (below_size (by repeat (first | (with_reducible first | exact HB.out | apply below_alloc | apply pw_below_drewN | apply below_drew1) | exact HB.out)))); have n2_ := Aside0.mk (below_step (by repeat (first | (with_reducible first | exact HB.out | apply below_alloc | apply pw_below_drewN | apply below_drew1) | exact HB.out)) hb); clear HO_9; clear HB; have HO_9 := n0_; have HO136 := n1_; have HB := n2_; clear n0_ n1_ n2_; (try clear hb); (try clear hb2); (try clear hk); (try clear hi); (try clear ho0); obtain ⟨Ao19, co19, eo19⟩ := Kd.R_slice HO136.out; subst eo19) | ((with_reducible refine gate_builtin (b := .append) (xs := #[.tmp 45, .tmp 51]) rfl ?_); (try (refine gate_guard (by rfl) ?_; dsimp only)); at_builtin; refine Kd.R_append_rows (Kd.int .u8) (w0 := w) w.heap.size rfl (.tmp 45) (.tmp 51) 32 5 (.int .u8 0) 1 rfl Try.underlying32 info5 rfl (by decide) (by omega) u9 x9_2 t134 _ _ _ (fun k_ => some k_ ≠ (.slice Ao19 t134.length co19 : Value).ownBlock) (fun _ => False) rfl rfl ?aO ?aR (fun _ _ h => h) (fun _ h => h.elim) ?aF ?aB ?aS ?aL ?_; (case aR => repeat (first | exact (Kd.R_reads' HO136.out).2.2 | (with_reducible refine Kd.C_alloc ?_ _) | (with_reducible refine Kd.C_drewN ?_ _) | (with_reducible refine Kd.C_drew ?_))); (case aB => exact (by repeat (first | (with_reducible first | exact HB.out | apply below_alloc | apply pw_below_drewN | apply below_drew1) | exact HB.out))); (case aF => exact (fun k_ hk => Kd.fresh' (Kd.R_lt (by (with_reducible repeat (first | apply Kd.R_alloc | apply Kd.R_drewN | apply Kd.R_drew)); exact HO136.out)) k_ hk)); (case aO => exact (by (with_reducible repeat (first | apply Kd.R_alloc | apply Kd.R_drewN | apply Kd.R_drew)); exact Kd.R_mono HO_9.out (fun _ hk => hk.2))); (case aS => exact (below_size (by repeat (first | (with_reducible first | exact HB.out | apply below_alloc | apply pw_below_drewN | apply below_drew1) | exact HB.out)))); (case aL => have := LMc16.out; omega); intro v138 w18 ho hb hg hat; rw [← Ny137.out] at ho; have n0_ := Aside0.mk (Kd.R_after (ok := (fun _ => True)) (by (with_reducible repeat (first | apply Kd.R_alloc | apply Kd.R_drewN | apply Kd.R_drew)); exact HO136.out) hg hat); have n1_ := Aside0.mk (hb); have n2_ := Aside0.mk (ho); clear HO136; clear HB; clear HO_9; have HO136 := n0_; have HB := n1_; have HO139 := n2_; clear n0_ n1_ n2_; clear ho hb hg hat))
                        go_roundg k2
                        case measure => have := HJ4.out; have := HK2.out; omega
                        case rel => exact ⟨(y137), (wrap64 (x10_2 + 1)), (by first | rfl | (simp; done) | (simp [*]; done)), H', ⟨by have := HJ4.out; have := HK2.out; omega⟩, ⟨by (with_reducible repeat (first | apply Kd.R_alloc | apply Kd.R_drewN | apply Kd.R_drew)); exact Kd.R_mono HO139.out (fun _ hk => trivial)⟩, ⟨by repeat (first | (with_reducible first | exact HB.out | apply below_alloc | apply pw_below_drewN | apply below_drew1) | exact HB.out)⟩⟩
                      · rw [if_neg c16] at H
                        exact absurd H (by simp)
                    · rw [if_neg c14] at H
                      exact absurd H (by simp)
                  · rw [if_neg c13] at H
                    have c13b0 : decide (a3 ≤ 8) = false := decide_eq_false c13
                    clear c13
                    have H' := Aside0.mk H
                    clear H
                    go_wp2
                    go_meet
                    case rel => exact ⟨_, (x9_2), H', ⟨by have := HJ4.out; have := HK2.out; first | omega | exact Nat.le_refl _⟩, ⟨by (with_reducible repeat (first | apply Kd.R_alloc | apply Kd.R_drewN | apply Kd.R_drew)); exact HO_9.out⟩, ⟨by repeat (first | (with_reducible first | exact HB.out | apply below_alloc | apply pw_below_drewN | apply below_drew1) | exact HB.out)⟩⟩
                · rw [if_neg c12] at H
                  have c12b0 : decide (1 ≤ a3) = false := decide_eq_false c12
                  clear c12
                  have H' := Aside0.mk H
                  clear H
                  go_wp2
                  go_meet
                  case rel => exact ⟨_, (x9_2), H', ⟨by have := HJ4.out; have := HK2.out; first | omega | exact Nat.le_refl _⟩, ⟨by (with_reducible repeat (first | apply Kd.R_alloc | apply Kd.R_drewN | apply Kd.R_drew)); exact HO_9.out⟩, ⟨by repeat (first | (with_reducible first | exact HB.out | apply below_alloc | apply pw_below_drewN | apply below_drew1) | exact HB.out)⟩⟩
              · rw [if_neg c11] at H
                have c11b0 : decide (x10_2 < (l2.length : Int)) = false := decide_eq_false c11
                clear c11
                (first | rw [c11b0] | rw [c11b1] | (simp only [i64_w, i32_w]; rw [c11b0]) | skip)
                have H' := Aside0.mk H
                clear H
                go_wp2
                go_meet
                case rel => exact ⟨_, (x9_2), H', ⟨by have := HJ4.out; have := HK2.out; first | omega | exact Nat.le_refl _⟩, ⟨by (with_reducible repeat (first | apply Kd.R_alloc | apply Kd.R_drewN | apply Kd.R_drew)); exact HO_9.out⟩, ⟨by repeat (first | (with_reducible first | exact HB.out | apply below_alloc | apply pw_below_drewN | apply below_drew1) | exact HB.out)⟩⟩
        case rest =>
          clear HC10
          try clear c1
          try clear p1
          try clear q1
          try clear hx1
          try clear c2
          try clear p2
          try clear c5
          try clear c6
          try clear c6b0
          try clear c6b1
          try clear p6
          try clear c7
          try clear c9
          try clear c11
          try clear c11b0
          try clear c12
          try clear c12b0
          try clear c13
          try clear c13b0
          try clear p13
          try clear q13
          try clear hx13
          try clear c14
          try clear c14b0
          try clear c16
          try clear c17
          try clear hx133_0
          try clear p133
          try clear p2
          try clear q133
          obtain ⟨kq, x9_9, HA, HJ9, HO_9, HB⟩ := hcut
          cases kq with
          | zero => exact absurd HA.out (by simp [gunnylaw01_NumBytes.j2])
          | succ kj9 =>
            have H := HA.out
            clear HA
            simp only [gunnylaw01_NumBytes.j2] at H
            replace H := Option.bind_eq_some_iff.mp H
            obtain ⟨t140, A200, H⟩ := H
            replace H : ((gunnyref01_Bytes.f t140 x9_9).bind fun t143 => (if t143 = true then (if (l2.length : Int) > 0 then (if 0 < (l2.length : Int) then (gunnylaw01_NumBytes.j3 kj9 l0 a1 a3 (strOfNums l0) (rd l2 0)) else (none)) else (gunnylaw01_NumBytes.j3 kj9 l0 a1 a3 (strOfNums l0) (IntKind.u64.wrap ((l0.length : Int))))) else (some false))) = some true := H
            have A20 := Aside0.mk A200
            clear A200
            replace H := Option.bind_eq_some_iff.mp H
            obtain ⟨t143, A210, H⟩ := H
            replace H : (if t143 = true then (if (l2.length : Int) > 0 then (if 0 < (l2.length : Int) then (gunnylaw01_NumBytes.j3 kj9 l0 a1 a3 (strOfNums l0) (rd l2 0)) else (none)) else (gunnylaw01_NumBytes.j3 kj9 l0 a1 a3 (strOfNums l0) (IntKind.u64.wrap ((l0.length : Int))))) else (some false)) = some true := H
            have A21 := Aside0.mk A210
            clear A210
            by_cases c22 : t143 = true
            · subst c22
              have H1 : (if (l2.length : Int) > 0 then (if 0 < (l2.length : Int) then (gunnylaw01_NumBytes.j3 kj9 l0 a1 a3 (strOfNums l0) (rd l2 0)) else (none)) else (gunnylaw01_NumBytes.j3 kj9 l0 a1 a3 (strOfNums l0) (IntKind.u64.wrap ((l0.length : Int))))) = some true := by rw [if_pos rfl] at H; exact H
              clear H
              have H := H1
              clear H1
              have HC23 := Aside0.mk H
              clear H
              go_upto_if 66 with (first | ((with_reducible refine gate_callee (f := 19) rfl ?_); refine goesL_ (some 55) rfl rfl Try.func19 (by kernel_rfl) rfl #[.int .i64 a3, .slice A2 l2.length c2] rfl (by (try simp only [List.map_toArray, List.map_cons, List.map_nil]); first | done | rfl | (simp only [List.length_drop, List.length_take]; rfl)) ?_; (with_reducible refine (num_Put.calls kj9 a3 _ _ l2 t140 _ ?side1 ?side2 A20.out).mono ?_); (case side1 => repeat (first | exact (Kd.C_below HR2.out HB.out) | (with_reducible refine Kd.C_alloc ?_ _) | (with_reducible refine Kd.C_drewN ?_ _) | (with_reducible refine Kd.C_drew ?_))); (case side2 => exact HC2.out); rintro e w24 ⟨v141, rfl, ho0, hb⟩; refine ⟨_, rfl, ?_⟩; have n0_ := Aside0.mk (Kd.R_elder' (by (with_reducible repeat (first | apply Kd.R_alloc | apply Kd.R_drewN | apply Kd.R_drew)); exact HO_9.out) (Kd.R_base ho0) hb); have n1_ := Aside0.mk (Kd.R_lower (Kd.R_new' ho0 (Kd.R_lt (by (with_reducible repeat (first | apply Kd.R_alloc | apply Kd.R_drewN | apply Kd.R_drew)); exact HO_9.out))) (below_size (by repeat (first | (with_reducible first | exact HB.out | apply below_alloc | apply pw_below_drewN | apply below_drew1) | exact HB.out)))); have n2_ := Aside0.mk (below_step (by repeat (first | (with_reducible first | exact HB.out | apply below_alloc | apply pw_below_drewN | apply below_drew1) | exact HB.out)) hb); clear HO_9; clear HB; have HO_9 := n0_; have HO142 := n1_; have HB := n2_; clear n0_ n1_ n2_; (try clear hb); (try clear hb2); (try clear hk); (try clear hi); (try clear ho0); obtain ⟨Ao25, co25, eo25⟩ := Kd.R_slice HO142.out; subst eo25; obtain ⟨Ao26, co26, eo26⟩ := Kd.R_slice HO_9.out; subst eo26) | ((with_reducible refine gate_callee (f := 18) rfl ?_); refine goesL_ (some 57) rfl rfl Try.func18 (by kernel_rfl) rfl #[.slice Ao25 t140.length co25, .slice Ao26 x9_9.length co26] rfl (by (try simp only [List.map_toArray, List.map_cons, List.map_nil]); first | done | rfl | (simp only [List.length_drop, List.length_take]; rfl)) ?_; (with_reducible refine (gunnyref01_Bytes.calls _ _ t140 _ _ x9_9 true _ ?side1 ?side2 ?side3 ?side4 A21.out).mono ?_); (case side1 => repeat (first | exact (Kd.R_reads' HO142.out).2.2 | (with_reducible refine Kd.C_alloc ?_ _) | (with_reducible refine Kd.C_drewN ?_ _) | (with_reducible refine Kd.C_drew ?_))); (case side2 => exact (Kd.R_reads' HO142.out).2.1); (case side3 => repeat (first | exact (Kd.R_reads' HO_9.out).2.2 | (with_reducible refine Kd.C_alloc ?_ _) | (with_reducible refine Kd.C_drewN ?_ _) | (with_reducible refine Kd.C_drew ?_))); (case side4 => exact (Kd.R_reads' HO_9.out).2.1); rintro e w' ⟨rfl, ⟨nd, rfl⟩⟩; refine ⟨_, rfl, ?_⟩; have hcv27 := Kd.C_string (P := Try.prog) (A := A0) (c := c0) Try.underlying32 Try.underlying5 Try.underlying9 (Kd.C_drewN (Kd.C_below HR0.out HB.out) nd)))
              (try simp only [Act.put, List.setIfInBounds_toArray, List.set_cons_zero, List.set_cons_succ])
              go_cut [12] (fun v12 wc => ∃ (kq : Nat) (x12_22 : Int), v12 = .int .u64 x12_22 ∧ Aside0 (gunnylaw01_NumBytes.j3 kq l0 a1 a3 (strOfNums l0) x12_22 = some true) ∧ Aside0 (kq ≤ kj9) ∧ Aside0 (Below w.heap.size w wc))
              case first =>
                have H := HC23.out
                clear HC23
                by_cases c28 : (l2.length : Int) > 0
                · rw [if_pos c28] at H
                  have c28b0 : decide (0 < (l2.length : Int)) = true := decide_eq_true c28
                  have c28b1 : decide (0 < l2.length) = true := decide_eq_true (by omega)
                  clear c28
                  (first | rw [c28b0] | rw [c28b1] | (simp only [i64_w, i32_w]; rw [c28b0]) | skip)
                  by_cases c29 : 0 < (l2.length : Int)
                  · rw [if_pos c29] at H
                    have c29b0 : decide (0 < (l2.length : Int)) = true := decide_eq_true c29
                    have c29b1 : decide (0 < l2.length) = true := decide_eq_true (by omega)
                    clear c29
                    have H' := Aside0.mk H
                    clear H
                    have p144 : 0 ≤ (0 : Int) := (by omega)
                    have q144 : 0 < (l2.length : Int) := of_decide_eq_true (by first | (with_reducible assumption) | assumption)
                    obtain ⟨ad144, e144, hx144_0⟩ := Kd.at_int HR2.out 0 p144 q144
                    cases e144
                    have qi144 : (0 < l2.length) = True := eq_true (by omega)
                    (try rw [show ((0 : Int)).toNat = 0 from rfl] at hx144_0)
                    (try rw [Addr.add_zero'] at hx144_0)
                    replace hx144_0 := (HB.out.cell (World.block_lt_of_cell? w _ hx144_0)).trans hx144_0
                    replace p144 := eq_true p144
                    replace q144 := eq_true q144
                    go_wp2
                    go_meet
                    case rel => exact ⟨_, (rd l2 0), (by first | rfl | (simp; done) | (simp [*]; done)), H', ⟨by have := HJ4.out; have := HJ9.out; first | omega | exact Nat.le_refl _⟩, ⟨by repeat (first | (with_reducible first | exact HB.out | apply below_alloc | apply pw_below_drewN | apply below_drew1) | exact HB.out)⟩⟩
                  · rw [if_neg c29] at H
                    exact absurd H (by simp)
                · rw [if_neg c28] at H
                  have c28b0 : decide (0 < (l2.length : Int)) = false := decide_eq_false c28
                  have c28b1 : decide (0 < l2.length) = false := decide_eq_false (by omega)
                  clear c28
                  (first | rw [c28b0] | rw [c28b1] | (simp only [i64_w, i32_w]; rw [c28b0]) | skip)
                  have H' := Aside0.mk H
                  clear H
                  go_wp2
                  go_meet
                  case rel => exact ⟨_, (IntKind.u64.wrap ((l0.length : Int))), (by first | rfl | (simp; done) | (simp [*]; done)), H', ⟨by have := HJ4.out; have := HJ9.out; first | omega | exact Nat.le_refl _⟩, ⟨by repeat (first | (with_reducible first | exact HB.out | apply below_alloc | apply pw_below_drewN | apply below_drew1) | exact HB.out)⟩⟩
              case rest =>
                clear HC23
                try clear c1
                try clear p1
                try clear q1
                try clear hx1
                try clear qi1
                try clear c2
                try clear p2
                try clear hcv2
                try clear c5
                try clear c6
                try clear c6b0
                try clear c6b1
                try clear p6
                try clear c7
                try clear c9
                try clear c11
                try clear c11b0
                try clear c12
                try clear c12b0
                try clear c13
                try clear c13b0
                try clear p13
                try clear q13
                try clear hx13
                try clear c14
                try clear c14b0
                try clear p14
                try clear q14
                try clear hx14
                try clear qi14
                try clear c16
                try clear c17
                try clear c18
                try clear c19
                try clear c22
                try clear hcv27
                try clear c28
                try clear c28b0
                try clear c28b1
                try clear c29
                try clear c29b0
                try clear c29b1
                try clear hx133_0
                try clear hx144_0
                try clear p1
                try clear p13
                try clear p133
                try clear p144
                try clear p2
                try clear p6
                try clear q1
                try clear q13
                try clear q133
                try clear q144
                obtain ⟨kq, x12_22, rfl, HA, HJ22, HB⟩ := hcut
                cases kq with
                | zero => exact absurd HA.out (by simp [gunnylaw01_NumBytes.j3])
                | succ kj22 =>
                  have H := HA.out
                  clear HA
                  rw [gunnylaw01_NumBytes.j3] at H
                  replace H := Option.bind_eq_some_iff.mp H
                  obtain ⟨⟨t145, t146⟩, A300, H⟩ := H
                  replace H : ((num_Lay.f l0 a1 a3 x12_22).bind fun bt147 => ((gunnyref01_There.f l0 a1 a3).bind fun t151 => (if t151 = true then (if 0 ≤ a1 then (if a1 ≤ ((strOfNums l0).size : Int) then ((gunnyref01_Put.f kj22 a3 x12_22).bind fun t152 => (if ((strOfNums l0).extract 0 (a1 : Int).toNat).size + (strOfNums t152).size ≤ 9223372036854775807 then (if 0 ≤ (wrap64 (a1 + a3)) then (if (wrap64 (a1 + a3)) ≤ ((strOfNums l0).size : Int) then (if (((strOfNums l0).extract 0 (a1 : Int).toNat) ++ (strOfNums t152)).size + ((strOfNums l0).extract ((wrap64 (a1 + a3)) : Int).toNat (strOfNums l0).size).size ≤ 9223372036854775807 then (if t146 = true then (if bt147.2 = true then ((gunnyref01_Get.f kj22 l0 a1 a3).bind fun t155 => (if t145 = t155 then (if (strOfNums bt147.1).toList = ((((strOfNums l0).extract 0 (a1 : Int).toNat) ++ (strOfNums t152)) ++ ((strOfNums l0).extract ((wrap64 (a1 + a3)) : Int).toNat (strOfNums l0).size)).toList then (if (strOfNums l0).toList = (strOfNums l0).toList then ((gunnylaw01_lives.f kj22).bind fun t156 => (some t156)) else (some false)) else (some false)) else (some false))) else (some false)) else (some false)) else (none)) else (none)) else (none)) else (none))) else (none)) else (none)) else (if t146 = true then (some false) else (if bt147.2 = true then (some false) else (if t145 = 0 then (if (bt147.1.length : Int) = 0 then ((gunnylaw01_lives.f kj22).bind fun t157 => (some t157)) else (some false)) else (some false))))))) = some true := H
                  have A30 := Aside0.mk A300
                  clear A300
                  replace H := Option.bind_eq_some_iff.mp H
                  obtain ⟨⟨t147, t148⟩, A310, H⟩ := H
                  replace H : ((gunnyref01_There.f l0 a1 a3).bind fun t151 => (if t151 = true then (if 0 ≤ a1 then (if a1 ≤ ((strOfNums l0).size : Int) then ((gunnyref01_Put.f kj22 a3 x12_22).bind fun t152 => (if ((strOfNums l0).extract 0 (a1 : Int).toNat).size + (strOfNums t152).size ≤ 9223372036854775807 then (if 0 ≤ (wrap64 (a1 + a3)) then (if (wrap64 (a1 + a3)) ≤ ((strOfNums l0).size : Int) then (if (((strOfNums l0).extract 0 (a1 : Int).toNat) ++ (strOfNums t152)).size + ((strOfNums l0).extract ((wrap64 (a1 + a3)) : Int).toNat (strOfNums l0).size).size ≤ 9223372036854775807 then (if t146 = true then (if t148 = true then ((gunnyref01_Get.f kj22 l0 a1 a3).bind fun t155 => (if t145 = t155 then (if (strOfNums t147).toList = ((((strOfNums l0).extract 0 (a1 : Int).toNat) ++ (strOfNums t152)) ++ ((strOfNums l0).extract ((wrap64 (a1 + a3)) : Int).toNat (strOfNums l0).size)).toList then (if (strOfNums l0).toList = (strOfNums l0).toList then ((gunnylaw01_lives.f kj22).bind fun t156 => (some t156)) else (some false)) else (some false)) else (some false))) else (some false)) else (some false)) else (none)) else (none)) else (none)) else (none))) else (none)) else (none)) else (if t146 = true then (some false) else (if t148 = true then (some false) else (if t145 = 0 then (if (t147.length : Int) = 0 then ((gunnylaw01_lives.f kj22).bind fun t157 => (some t157)) else (some false)) else (some false)))))) = some true := H
                  have A31 := Aside0.mk A310
                  clear A310
                  replace H := Option.bind_eq_some_iff.mp H
                  obtain ⟨t151, A320, H⟩ := H
                  replace H : (if t151 = true then (if 0 ≤ a1 then (if a1 ≤ ((strOfNums l0).size : Int) then ((gunnyref01_Put.f kj22 a3 x12_22).bind fun t152 => (if ((strOfNums l0).extract 0 (a1 : Int).toNat).size + (strOfNums t152).size ≤ 9223372036854775807 then (if 0 ≤ (wrap64 (a1 + a3)) then (if (wrap64 (a1 + a3)) ≤ ((strOfNums l0).size : Int) then (if (((strOfNums l0).extract 0 (a1 : Int).toNat) ++ (strOfNums t152)).size + ((strOfNums l0).extract ((wrap64 (a1 + a3)) : Int).toNat (strOfNums l0).size).size ≤ 9223372036854775807 then (if t146 = true then (if t148 = true then ((gunnyref01_Get.f kj22 l0 a1 a3).bind fun t155 => (if t145 = t155 then (if (strOfNums t147).toList = ((((strOfNums l0).extract 0 (a1 : Int).toNat) ++ (strOfNums t152)) ++ ((strOfNums l0).extract ((wrap64 (a1 + a3)) : Int).toNat (strOfNums l0).size)).toList then (if (strOfNums l0).toList = (strOfNums l0).toList then ((gunnylaw01_lives.f kj22).bind fun t156 => (some t156)) else (some false)) else (some false)) else (some false))) else (some false)) else (some false)) else (none)) else (none)) else (none)) else (none))) else (none)) else (none)) else (if t146 = true then (some false) else (if t148 = true then (some false) else (if t145 = 0 then (if (t147.length : Int) = 0 then ((gunnylaw01_lives.f kj22).bind fun t157 => (some t157)) else (some false)) else (some false))))) = some true := H
                  have A32 := Aside0.mk A320
                  clear A320
                  by_cases c33 : t151 = true
                  · subst c33
                    have H1 : (if 0 ≤ a1 then (if a1 ≤ ((strOfNums l0).size : Int) then ((gunnyref01_Put.f kj22 a3 x12_22).bind fun t152 => (if ((strOfNums l0).extract 0 (a1 : Int).toNat).size + (strOfNums t152).size ≤ 9223372036854775807 then (if 0 ≤ (wrap64 (a1 + a3)) then (if (wrap64 (a1 + a3)) ≤ ((strOfNums l0).size : Int) then (if (((strOfNums l0).extract 0 (a1 : Int).toNat) ++ (strOfNums t152)).size + ((strOfNums l0).extract ((wrap64 (a1 + a3)) : Int).toNat (strOfNums l0).size).size ≤ 9223372036854775807 then (if t146 = true then (if t148 = true then ((gunnyref01_Get.f kj22 l0 a1 a3).bind fun t155 => (if t145 = t155 then (if (strOfNums t147).toList = ((((strOfNums l0).extract 0 (a1 : Int).toNat) ++ (strOfNums t152)) ++ ((strOfNums l0).extract ((wrap64 (a1 + a3)) : Int).toNat (strOfNums l0).size)).toList then (if (strOfNums l0).toList = (strOfNums l0).toList then ((gunnylaw01_lives.f kj22).bind fun t156 => (some t156)) else (some false)) else (some false)) else (some false))) else (some false)) else (some false)) else (none)) else (none)) else (none)) else (none))) else (none)) else (none)) = some true := by rw [if_pos rfl] at H; exact H
                    clear H
                    have H := H1
                    clear H1
                    by_cases c34 : 0 ≤ a1
                    · rw [if_pos c34] at H
                      have c34b0 := eq_true c34
                      have c34b1 : decide (0 ≤ a1) = true := decide_eq_true c34
                      clear c34
                      by_cases c35 : a1 ≤ ((strOfNums l0).size : Int)
                      · rw [if_pos c35] at H
                        have c35b0 := eq_true c35
                        have c35b1 : decide (a1 ≤ ((strOfNums l0).size : Int)) = true := decide_eq_true c35
                        clear c35
                        replace H := Option.bind_eq_some_iff.mp H
                        obtain ⟨t152, A360, H⟩ := H
                        replace H : (if ((strOfNums l0).extract 0 (a1 : Int).toNat).size + (strOfNums t152).size ≤ 9223372036854775807 then (if 0 ≤ (wrap64 (a1 + a3)) then (if (wrap64 (a1 + a3)) ≤ ((strOfNums l0).size : Int) then (if (((strOfNums l0).extract 0 (a1 : Int).toNat) ++ (strOfNums t152)).size + ((strOfNums l0).extract ((wrap64 (a1 + a3)) : Int).toNat (strOfNums l0).size).size ≤ 9223372036854775807 then (if t146 = true then (if t148 = true then ((gunnyref01_Get.f kj22 l0 a1 a3).bind fun t155 => (if t145 = t155 then (if (strOfNums t147).toList = ((((strOfNums l0).extract 0 (a1 : Int).toNat) ++ (strOfNums t152)) ++ ((strOfNums l0).extract ((wrap64 (a1 + a3)) : Int).toNat (strOfNums l0).size)).toList then (if (strOfNums l0).toList = (strOfNums l0).toList then ((gunnylaw01_lives.f kj22).bind fun t156 => (some t156)) else (some false)) else (some false)) else (some false))) else (some false)) else (some false)) else (none)) else (none)) else (none)) else (none)) = some true := H
                        have A36 := Aside0.mk A360
                        clear A360
                        by_cases c37 : ((strOfNums l0).extract 0 (a1 : Int).toNat).size + (strOfNums t152).size ≤ 9223372036854775807
                        · rw [if_pos c37] at H
                          have c37b0 := eq_true c37
                          have c37b1 : decide (((strOfNums l0).extract 0 (a1 : Int).toNat).size + (strOfNums t152).size ≤ 9223372036854775807) = true := decide_eq_true c37
                          try have c37b2 : (9223372036854775807 < ((strOfNums l0).extract 0 (a1 : Int).toNat).size + (strOfNums t152).size) = False := eq_false (Nat.not_lt.2 c37)
                          have qz_ : ((strOfNums l0).extract 0 a1.toNat).size = a1.toNat := by rw [ByteArray.size_extract]; have h1_ := of_eq_true c34b0; have h2_ := of_eq_true c35b0; omega
                          have qa_ : (9223372036854775807 < a1.toNat + (strOfNums t152).size) = False := eq_false (by rw [← qz_]; exact Nat.not_lt.2 c37)
                          obtain ⟨ji38, hji38⟩ : ∃ j_ : Int, (wrap64 (a1 + a3)) = j_ := ⟨_, rfl⟩
                          replace H : (if 0 ≤ (ji38) then (if (ji38) ≤ ((strOfNums l0).size : Int) then (if (((strOfNums l0).extract 0 (a1 : Int).toNat) ++ (strOfNums t152)).size + ((strOfNums l0).extract ((ji38) : Int).toNat (strOfNums l0).size).size ≤ 9223372036854775807 then (if t146 = true then (if t148 = true then ((gunnyref01_Get.f kj22 l0 a1 a3).bind fun t155 => (if t145 = t155 then (if (strOfNums t147).toList = ((((strOfNums l0).extract 0 (a1 : Int).toNat) ++ (strOfNums t152)) ++ ((strOfNums l0).extract ((ji38) : Int).toNat (strOfNums l0).size)).toList then (if (strOfNums l0).toList = (strOfNums l0).toList then ((gunnylaw01_lives.f kj22).bind fun t156 => (some t156)) else (some false)) else (some false)) else (some false))) else (some false)) else (some false)) else (none)) else (none)) else (none)) = some true := by first | (rw [hji38] at H; exact H) | (simp only [hji38] at H ⊢; exact H)
                          (try rw [hji38] at A30)
                          (try rw [hji38] at A31)
                          (try rw [hji38] at A32)
                          (try rw [hji38] at A36)
                          have hji38w : (IntKind.i64.wrap (a1 + a3)) = ji38 := (i64_w _).trans hji38
                          by_cases c39 : 0 ≤ (ji38)
                          · rw [if_pos c39] at H
                            have c39b0 := eq_true c39
                            have c39b1 : decide (0 ≤ (ji38)) = true := decide_eq_true c39
                            clear c39
                            by_cases c40 : (ji38) ≤ ((strOfNums l0).size : Int)
                            · rw [if_pos c40] at H
                              have c40b0 := eq_true c40
                              have c40b1 : decide ((ji38) ≤ ((strOfNums l0).size : Int)) = true := decide_eq_true c40
                              clear c40
                              by_cases c41 : (((strOfNums l0).extract 0 (a1 : Int).toNat) ++ (strOfNums t152)).size + ((strOfNums l0).extract ((ji38) : Int).toNat (strOfNums l0).size).size ≤ 9223372036854775807
                              · rw [if_pos c41] at H
                                have c41b0 := eq_true c41
                                have c41b1 : decide ((((strOfNums l0).extract 0 (a1 : Int).toNat) ++ (strOfNums t152)).size + ((strOfNums l0).extract ((ji38) : Int).toNat (strOfNums l0).size).size ≤ 9223372036854775807) = true := decide_eq_true c41
                                try have c41b2 : (9223372036854775807 < (((strOfNums l0).extract 0 (a1 : Int).toNat) ++ (strOfNums t152)).size + ((strOfNums l0).extract ((ji38) : Int).toNat (strOfNums l0).size).size) = False := eq_false (Nat.not_lt.2 c41)
                                have qb_ : (9223372036854775807 < a1.toNat + (strOfNums t152).size + ((strOfNums l0).size - ji38.toNat)) = False := eq_false (by have h1_ := c41; rw [ByteArray.size_append, qz_, ByteArray.size_extract] at h1_; omega)
                                by_cases c42 : t146 = true
                                · subst c42
                                  have H1 : (if t148 = true then ((gunnyref01_Get.f kj22 l0 a1 a3).bind fun t155 => (if t145 = t155 then (if (strOfNums t147).toList = ((((strOfNums l0).extract 0 (a1 : Int).toNat) ++ (strOfNums t152)) ++ ((strOfNums l0).extract ((ji38) : Int).toNat (strOfNums l0).size)).toList then (if (strOfNums l0).toList = (strOfNums l0).toList then ((gunnylaw01_lives.f kj22).bind fun t156 => (some t156)) else (some false)) else (some false)) else (some false))) else (some false)) = some true := by rw [if_pos rfl] at H; exact H
                                  clear H
                                  have H := H1
                                  clear H1
                                  by_cases c43 : t148 = true
                                  · subst c43
                                    have H1 : ((gunnyref01_Get.f kj22 l0 a1 a3).bind fun t155 => (if t145 = t155 then (if (strOfNums t147).toList = ((((strOfNums l0).extract 0 (a1 : Int).toNat) ++ (strOfNums t152)) ++ ((strOfNums l0).extract ((ji38) : Int).toNat (strOfNums l0).size)).toList then (if (strOfNums l0).toList = (strOfNums l0).toList then ((gunnylaw01_lives.f kj22).bind fun t156 => (some t156)) else (some false)) else (some false)) else (some false))) = some true := by rw [if_pos rfl] at H; exact H
                                    clear H
                                    have H := H1
                                    clear H1
                                    replace H := Option.bind_eq_some_iff.mp H
                                    obtain ⟨t155, A440, H⟩ := H
                                    replace H : (if t145 = t155 then (if (strOfNums t147).toList = ((((strOfNums l0).extract 0 (a1 : Int).toNat) ++ (strOfNums t152)) ++ ((strOfNums l0).extract ((ji38) : Int).toNat (strOfNums l0).size)).toList then (if (strOfNums l0).toList = (strOfNums l0).toList then ((gunnylaw01_lives.f kj22).bind fun t156 => (some t156)) else (some false)) else (some false)) else (some false)) = some true := H
                                    have A44 := Aside0.mk A440
                                    clear A440
                                    by_cases c45 : t145 = t155
                                    · rw [if_pos c45] at H
                                      have c45b0 : (t145 == t155) = true := beq_iff_eq.mpr c45
                                      have c45b1 : (t145 != t155) = false := bne_eq_false_iff_eq.mpr c45
                                      clear c45
                                      by_cases c46 : (strOfNums t147).toList = ((((strOfNums l0).extract 0 (a1 : Int).toNat) ++ (strOfNums t152)) ++ ((strOfNums l0).extract ((ji38) : Int).toNat (strOfNums l0).size)).toList
                                      · rw [if_pos c46] at H
                                        have c46b0 : ((strOfNums t147).toList == ((((strOfNums l0).extract 0 (a1 : Int).toNat) ++ (strOfNums t152)) ++ ((strOfNums l0).extract ((ji38) : Int).toNat (strOfNums l0).size)).toList) = true := beq_iff_eq.mpr c46
                                        have c46b1 : ((strOfNums t147).toList != ((((strOfNums l0).extract 0 (a1 : Int).toNat) ++ (strOfNums t152)) ++ ((strOfNums l0).extract ((ji38) : Int).toNat (strOfNums l0).size)).toList) = false := bne_eq_false_iff_eq.mpr c46
                                        clear c46
                                        by_cases c47 : (strOfNums l0).toList = (strOfNums l0).toList
                                        · rw [if_pos c47] at H
                                          have c47b0 : ((strOfNums l0).toList == (strOfNums l0).toList) = true := beq_iff_eq.mpr c47
                                          have c47b1 : ((strOfNums l0).toList != (strOfNums l0).toList) = false := bne_eq_false_iff_eq.mpr c47
                                          clear c47
                                          replace H := Option.bind_eq_some_iff.mp H
                                          obtain ⟨t156, A480, H⟩ := H
                                          replace H : (some t156) = some true := H
                                          have A48 := Aside0.mk A480
                                          clear A480
                                          obtain rfl := Option.some.inj H
                                          try go_wp2_with (first | ((with_reducible refine gate_callee (f := 20) rfl ?_); refine goesL_ (some 74) rfl rfl Try.func20 (by kernel_rfl) rfl #[.slice A0 l0.length c0, .int .i64 a1, .int .i64 a3] rfl (by (try simp only [List.map_toArray, List.map_cons, List.map_nil]); first | done | rfl | (simp only [List.length_drop, List.length_take]; rfl)) ?_; (with_reducible refine (num_Get.calls kj22 _ _ l0 a1 a3 t145 true _ ?side1 ?side2 A30.out).mono ?_); (case side1 => repeat (first | exact (Kd.C_below HR0.out HB.out) | (with_reducible refine Kd.C_alloc ?_ _) | (with_reducible refine Kd.C_drewN ?_ _) | (with_reducible refine Kd.C_drew ?_))); (case side2 => exact HC0.out); rintro e w' ⟨rfl, ⟨nd, rfl⟩⟩; refine ⟨_, rfl, ?_⟩) | ((with_reducible refine gate_callee (f := 21) rfl ?_); refine goesL_ (some 82) rfl rfl Try.func21 (by kernel_rfl) rfl #[.slice A0 l0.length c0, .int .i64 a1, .int .i64 a3, .int .u64 x12_22] rfl (by (try simp only [List.map_toArray, List.map_cons, List.map_nil]); first | done | rfl | (simp only [List.length_drop, List.length_take]; rfl)) ?_; (with_reducible refine (num_Lay.calls _ _ l0 a1 a3 x12_22 t147 true _ ?side1 ?side2 A31.out).mono ?_); (case side1 => repeat (first | exact (Kd.C_below HR0.out (by repeat (first | (with_reducible first | exact HB.out | apply below_alloc | apply pw_below_drewN | apply below_drew1) | exact HB.out))) | (with_reducible refine Kd.C_alloc ?_ _) | (with_reducible refine Kd.C_drewN ?_ _) | (with_reducible refine Kd.C_drew ?_))); (case side2 => exact HC0.out); rintro e w49 ⟨v149, rfl, ho0, hb⟩; refine ⟨_, rfl, ?_⟩; have n0_ := Aside0.mk (Kd.R_lower ho0 (below_size (by repeat (first | (with_reducible first | exact HB.out | apply below_alloc | apply pw_below_drewN | apply below_drew1) | exact HB.out)))); have n1_ := Aside0.mk (below_step (by repeat (first | (with_reducible first | exact HB.out | apply below_alloc | apply pw_below_drewN | apply below_drew1) | exact HB.out)) hb); clear HB; have HO150 := n0_; have HB := n1_; clear n0_ n1_; (try clear hb); (try clear hb2); (try clear hk); (try clear hi); (try clear ho0)) | ((with_reducible refine gate_callee (f := 22) rfl ?_); refine goesL_ (some 88) rfl rfl Try.func22 (by kernel_rfl) rfl #[.slice A0 l0.length c0, .int .i64 a1, .int .i64 a3] rfl (by (try simp only [List.map_toArray, List.map_cons, List.map_nil]); first | done | rfl | (simp only [List.length_drop, List.length_take]; rfl)) ?_; (with_reducible refine (gunnyref01_There.calls _ _ l0 a1 a3 true _ ?side1 ?side2 A32.out).mono ?_); (case side1 => repeat (first | exact (Kd.C_below HR0.out HB.out) | (with_reducible refine Kd.C_alloc ?_ _) | (with_reducible refine Kd.C_drewN ?_ _) | (with_reducible refine Kd.C_drew ?_))); (case side2 => exact HC0.out); rintro e w' ⟨rfl, ⟨nd, rfl⟩⟩; refine ⟨_, rfl, ?_⟩))
                                          (try (rw [drewN_self w49]; generalize hq_ : World.drewN w49 _ = w49; have n0_ : Aside0 (Kd.R (Kd.int .u8) 5 w49 w.heap.size (fun _ => True) v149 t147) := ⟨by rw [← hq_]; exact (by (with_reducible repeat (first | apply Kd.R_alloc | apply Kd.R_drewN | apply Kd.R_drew)); exact HO150.out)⟩; have n1_ : Aside0 (Below w.heap.size w w49) := ⟨by rw [← hq_]; exact (by repeat (first | (with_reducible first | exact HB.out | apply below_alloc | apply pw_below_drewN | apply below_drew1) | exact HB.out))⟩; clear HO150 HB hq_; have HO150 := n0_; have HB := n1_; clear n0_ n1_))
                                          have n0_ := Aside0.mk (Kd.R_drew HO150.out)
                                          have n1_ := Aside0.mk (below_drew1 HB.out)
                                          clear HO150
                                          clear HB
                                          have HO150 := n0_
                                          have HB := n1_
                                          clear n0_ n1_
                                          refine start_ (n := 15) (S := fun w' => True) (ds := []) #[false, false, false, false, false, false, false, false, false, false, false, false, false, false, false] (by kernel_rfl) rfl rfl trivial (fun hHeld => ?_); refine with_tabW gunnylaw01_NumBytes.tab19 gunnylaw01_NumBytes.bits19 (fun HT_ HW_ => ?_)
                                          generalize w49.drew = w50 at HO150 HB hHeld ⊢
                                          refine pure_ (i := 0) (N := some 108) (v := ?_) (a' := ?_) #[true, false, false, false, false, false, false, false, false, false, false, false, false, false, false] rfl rfl (any_of HT_.out (by kernel_rfl)) (fun _ _ _ h => h) (Or.inl ⟨by rfl, ?_⟩) ?_ ?_
                                          rotate_left
                                          · intro w'
                                            go_simp
                                            with_reducible rfl
                                          rotate_left
                                          · simp only [Act.put, List.setIfInBounds_toArray, List.set_cons_zero, List.set_cons_succ, i64_w, i32_w]
                                            rfl
                                          refine pure_ (i := 1) (N := some 109) (v := ?_) (a' := ?_) #[true, true, false, false, false, false, false, false, false, false, false, false, false, false, false] rfl rfl (any_of HT_.out (by kernel_rfl)) (fun _ _ _ h => h) (Or.inl ⟨by rfl, ?_⟩) ?_ ?_
                                          rotate_left
                                          · intro w'
                                            go_simp
                                            with_reducible rfl
                                          rotate_left
                                          · simp only [Act.put, List.setIfInBounds_toArray, List.set_cons_zero, List.set_cons_succ, i64_w, i32_w]
                                            rfl
                                          refine pure_ (i := 2) (N := some 110) (v := ?_) (a' := ?_) #[true, true, true, false, false, false, false, false, false, false, false, false, false, false, false] rfl rfl (any_of HT_.out (by kernel_rfl)) (fun _ _ _ h => h) (Or.inl ⟨by rfl, ?_⟩) ?_ ?_
                                          rotate_left
                                          · intro w'
                                            go_simp
                                            with_reducible rfl
                                          rotate_left
                                          · simp only [Act.put, List.setIfInBounds_toArray, List.set_cons_zero, List.set_cons_succ, i64_w, i32_w]
                                            rfl
                                          refine pure_ (i := 3) (N := some 111) (v := ?_) (a' := ?_) #[true, true, true, true, false, false, false, false, false, false, false, false, false, false, false] rfl rfl (any_of HT_.out (by kernel_rfl)) (fun _ _ _ h => h) (Or.inl ⟨by rfl, ?_⟩) ?_ ?_
                                          rotate_left
                                          · intro w'
                                            go_simp
                                            with_reducible rfl
                                          rotate_left
                                          · simp only [Act.put, List.setIfInBounds_toArray, List.set_cons_zero, List.set_cons_succ, i64_w, i32_w]
                                            rfl
                                          refine pure_ (i := 4) (N := some 112) (v := ?_) (a' := ?_) #[true, true, true, true, true, false, false, false, false, false, false, false, false, false, false] rfl rfl (any_of HT_.out (by kernel_rfl)) (fun _ _ _ h => h) (Or.inl ⟨by rfl, ?_⟩) ?_ ?_
                                          rotate_left
                                          · intro w'
                                            go_simp
                                            with_reducible rfl
                                          rotate_left
                                          · simp only [Act.put, List.setIfInBounds_toArray, List.set_cons_zero, List.set_cons_succ, i64_w, i32_w]
                                            rfl
                                          refine pure_ (i := 8) (N := some 116) (v := ?_) (a' := ?_) #[true, true, true, true, true, false, false, false, true, false, false, false, false, false, false] rfl rfl (any_of HT_.out (by kernel_rfl)) (fun _ _ _ h => h) (Or.inl ⟨by rfl, ?_⟩) ?_ ?_
                                          rotate_left
                                          · intro w'
                                            go_simp
                                            with_reducible rfl
                                          rotate_left
                                          · simp only [Act.put, List.setIfInBounds_toArray, List.set_cons_zero, List.set_cons_succ, i64_w, i32_w]
                                            rfl
                                          refine pure_ (i := 9) (N := some 117) (v := ?_) (a' := ?_) #[true, true, true, true, true, false, false, false, true, true, false, false, false, false, false] rfl rfl (any_of HT_.out (by kernel_rfl)) (fun _ _ _ h => h) (Or.inl ⟨by rfl, ?_⟩) ?_ ?_
                                          rotate_left
                                          · intro w'
                                            go_simp
                                            with_reducible rfl
                                          rotate_left
                                          · simp only [Act.put, List.setIfInBounds_toArray, List.set_cons_zero, List.set_cons_succ, i64_w, i32_w]
                                            rfl
                                          refine pure_ (i := 10) (N := some 118) (v := ?_) (a' := ?_) #[true, true, true, true, true, false, false, false, true, true, true, false, false, false, false] rfl rfl (any_of HT_.out (by kernel_rfl)) (fun _ _ _ h => h) (Or.inl ⟨by rfl, ?_⟩) ?_ ?_
                                          rotate_left
                                          · intro w'
                                            go_simp
                                            with_reducible rfl
                                          rotate_left
                                          · simp only [Act.put, List.setIfInBounds_toArray, List.set_cons_zero, List.set_cons_succ, i64_w, i32_w]
                                            rfl
                                          refine pure_ (i := 11) (N := some 119) (v := ?_) (a' := ?_) #[true, true, true, true, true, false, false, false, true, true, true, true, false, false, false] rfl rfl (any_of HT_.out (by kernel_rfl)) (fun _ _ _ h => h) (Or.inl ⟨by rfl, ?_⟩) ?_ ?_
                                          rotate_left
                                          · intro w'
                                            go_simp
                                            with_reducible rfl
                                          rotate_left
                                          · simp only [Act.put, List.setIfInBounds_toArray, List.set_cons_zero, List.set_cons_succ, i64_w, i32_w]
                                            rfl
                                          refine pure_ (i := 12) (N := some 120) (v := ?_) (a' := ?_) #[true, true, true, true, true, false, false, false, true, true, true, true, true, false, false] rfl rfl (any_of HT_.out (by kernel_rfl)) (fun _ _ _ h => h) (Or.inl ⟨by rfl, ?_⟩) ?_ ?_
                                          rotate_left
                                          · intro w'
                                            go_simp
                                            with_reducible rfl
                                          rotate_left
                                          · simp only [Act.put, List.setIfInBounds_toArray, List.set_cons_zero, List.set_cons_succ, i64_w, i32_w]
                                            rfl
                                          refine one_ (i := 5) (N := some 113) #[true, true, true, true, true, true, false, false, true, true, true, true, true, false, false] rfl rfl (one_of HT_.out (by kernel_rfl)) (by decide) (fun K hK => ?_)
                                          refine goes_ Try.func17 (by kernel_rfl) rfl #[.int .i64 a3, .int .u64 x12_22] (by rfl) rfl rfl (by (try simp only [List.map_toArray, List.map_cons, List.map_nil]); first | done | rfl | (simp only [List.length_drop, List.length_take]; rfl)) ?_
                                          with_reducible refine (gunnyref01_Put.calls kj22 a3 x12_22 t152 _ A36.out).mono ?_
                                          rintro e w51 ⟨v153, rfl, ho0, hb⟩
                                          refine ⟨_, rfl, ?_⟩
                                          have n0_ := Aside0.mk (Kd.R_elder' (by (with_reducible repeat (first | apply Kd.R_alloc | apply Kd.R_drewN | apply Kd.R_drew)); exact HO150.out) (Kd.R_base ho0) hb)
                                          have n1_ := Aside0.mk (Kd.R_lower (Kd.R_new' ho0 (Kd.R_lt (by (with_reducible repeat (first | apply Kd.R_alloc | apply Kd.R_drewN | apply Kd.R_drew)); exact HO150.out))) (below_size (by repeat (first | (with_reducible first | exact HB.out | apply below_alloc | apply pw_below_drewN | apply below_drew1) | exact HB.out))))
                                          have n2_ := Aside0.mk (below_step (by repeat (first | (with_reducible first | exact HB.out | apply below_alloc | apply pw_below_drewN | apply below_drew1) | exact HB.out)) hb)
                                          clear HO150
                                          clear HB
                                          have HO150 := n0_
                                          have HO154 := n1_
                                          have HB := n2_
                                          clear n0_ n1_ n2_
                                          (try clear hb)
                                          (try clear hb2)
                                          (try clear hk)
                                          (try clear hi)
                                          (try clear ho0)
                                          refine hK.out _ _ trivial (fun hHeld => ?_)
                                          clear hK K
                                          refine norm_ (a' := ?_) ?_ ?_
                                          rotate_left
                                          · show Act.put _ (some 113) _ = _
                                            simp only [Act.put, List.setIfInBounds_toArray, List.set_cons_zero, List.set_cons_succ, i64_w, i32_w]
                                            rfl
                                          refine one_ (i := 6) (N := some 114) #[true, true, true, true, true, true, true, false, true, true, true, true, true, false, false] rfl rfl (one_of HT_.out (by kernel_rfl)) (by decide) (fun K hK => ?_)
                                          have hcv52 := own_string (P := Try.prog) Try.underlying32 Try.underlying5 Try.underlying9 (Kd.own_of_R HO154.out)
                                          refine value_ (w1 := ?_) (v := ?_) (by rfl) rfl ?_ ?_
                                          rotate_left 2
                                          · go_simp
                                            constructor
                                            · rfl
                                            · rfl
                                          clear hcv52
                                          refine hK.out _ _ trivial (fun hHeld => ?_)
                                          clear hK K
                                          refine norm_ (a' := ?_) ?_ ?_
                                          rotate_left
                                          · show Act.put _ (some 114) _ = _
                                            simp only [Act.put, List.setIfInBounds_toArray, List.set_cons_zero, List.set_cons_succ, i64_w, i32_w]
                                            rfl
                                          refine pure_ (i := 7) (N := some 115) (v := ?_) (a' := ?_) #[true, true, true, true, true, true, true, true, true, true, true, true, true, false, false] rfl rfl (any_of HT_.out (by kernel_rfl)) (fun _ _ _ h => h) (Or.inl ⟨by rfl, ?_⟩) ?_ ?_
                                          rotate_left
                                          · intro w'
                                            go_simp
                                            with_reducible rfl
                                          rotate_left
                                          · simp only [Act.put, List.setIfInBounds_toArray, List.set_cons_zero, List.set_cons_succ, i64_w, i32_w]
                                            rfl
                                          refine pure_ (i := 13) (N := some 121) (v := ?_) (a' := ?_) #[true, true, true, true, true, true, true, true, true, true, true, true, true, true, false] rfl rfl (any_of HT_.out (by kernel_rfl)) (fun _ _ _ h => h) (Or.inl ⟨by rfl, ?_⟩) ?_ ?_
                                          rotate_left
                                          · intro w'
                                            go_simp
                                            with_reducible rfl
                                          rotate_left
                                          · simp only [Act.put, List.setIfInBounds_toArray, List.set_cons_zero, List.set_cons_succ, i64_w, i32_w]
                                            rfl
                                          refine pure_ (i := 14) (N := some 17) (v := ?_) (a' := ?_) #[true, true, true, true, true, true, true, true, true, true, true, true, true, true, true] rfl rfl (any_of HT_.out (by kernel_rfl)) (fun _ _ _ h => h) (Or.inl ⟨by rfl, ?_⟩) ?_ ?_
                                          rotate_left
                                          · intro w'
                                            go_simp
                                            with_reducible rfl
                                          rotate_left
                                          · simp only [Act.put, List.setIfInBounds_toArray, List.set_cons_zero, List.set_cons_succ, i64_w, i32_w]
                                            rfl
                                          refine done_ (done_of HT_.out (by kernel_rfl)) ?_
                                          try go_wp2_with (first | (go_at_call 23; (with_reducible refine (gunnyref01_Get.calls kj22 _ _ l0 a1 a3 t155 _ ?side1 ?side2 A44.out).mono ?_); (case side1 => repeat (first | exact (Kd.C_below HR0.out HB.out) | (with_reducible refine Kd.C_alloc ?_ _) | (with_reducible refine Kd.C_drewN ?_ _) | (with_reducible refine Kd.C_drew ?_))); (case side2 => exact HC0.out); rintro e w' ⟨rfl, ⟨nd, rfl⟩⟩; have hcv53 := own_string (P := Try.prog) Try.underlying32 Try.underlying5 Try.underlying9 (Kd.own_of_R (Kd.R_drewN HO150.out nd)); have hcv54 := Kd.C_string (P := Try.prog) (A := A0) (c := c0) Try.underlying32 Try.underlying5 Try.underlying9 (Kd.C_drewN (Kd.C_below HR0.out HB.out) nd)) | (go_at_call 9; (with_reducible refine (gunnylaw01_lives.calls kj22  true _ A48.out).mono ?_); rintro e w55 ⟨rfl, hb⟩; have n0_ := Aside0.mk (Kd.R_below (by (with_reducible repeat (first | apply Kd.R_alloc | apply Kd.R_drewN | apply Kd.R_drew)); exact HO150.out) hb); have n1_ := Aside0.mk (Kd.R_below (by (with_reducible repeat (first | apply Kd.R_alloc | apply Kd.R_drewN | apply Kd.R_drew)); exact HO154.out) hb); have n2_ := Aside0.mk (below_step (by repeat (first | (with_reducible first | exact HB.out | apply below_alloc | apply pw_below_drewN | apply below_drew1) | exact HB.out)) hb); clear HO150; clear HO154; clear HB; have HO150 := n0_; have HO154 := n1_; have HB := n2_; clear n0_ n1_ n2_; (try clear hb); (try clear hb2); (try clear hk); (try clear hi)))
                                          go_ret
                                          exact ⟨by first | rfl | (simp [errW_none, errW_some] <;> rfl) | (simp only [← hji38]; first | rfl | (simp [errW_none, errW_some] <;> rfl)) | (simp [*, errW_none, errW_some] <;> rfl), by repeat (first | (with_reducible first | exact HB.out | apply below_alloc | apply pw_below_drewN | apply below_drew1) | exact HB.out)⟩
                                        · rw [if_neg c47] at H
                                          exact absurd H not_tt
                                      · rw [if_neg c46] at H
                                        exact absurd H not_tt
                                    · rw [if_neg c45] at H
                                      exact absurd H not_tt
                                  · replace c43 := Bool.eq_false_iff.mpr c43
                                    subst c43
                                    have H1 : (some false) = some true := by rw [if_neg (show ¬ (false = true) by decide)] at H; exact H
                                    exact absurd H1 not_tt
                                · replace c42 := Bool.eq_false_iff.mpr c42
                                  subst c42
                                  have H1 : (some false) = some true := by rw [if_neg (show ¬ (false = true) by decide)] at H; exact H
                                  exact absurd H1 not_tt
                              · rw [if_neg c41] at H
                                exact absurd H (by simp)
                            · rw [if_neg c40] at H
                              exact absurd H (by simp)
                          · rw [if_neg c39] at H
                            exact absurd H (by simp)
                        · rw [if_neg c37] at H
                          exact absurd H (by simp)
                      · rw [if_neg c35] at H
                        exact absurd H (by simp)
                    · rw [if_neg c34] at H
                      exact absurd H (by simp)
                  · replace c33 := Bool.eq_false_iff.mpr c33
                    subst c33
                    have H1 : (if t146 = true then (some false) else (if t148 = true then (some false) else (if t145 = 0 then (if (t147.length : Int) = 0 then ((gunnylaw01_lives.f kj22).bind fun t157 => (some t157)) else (some false)) else (some false)))) = some true := by rw [if_neg (show ¬ (false = true) by decide)] at H; exact H
                    clear H
                    have H := H1
                    clear H1
                    by_cases c79 : t146 = true
                    · subst c79
                      have H1 : (some false) = some true := by rw [if_pos rfl] at H; exact H
                      exact absurd H1 not_tt
                    · replace c79 := Bool.eq_false_iff.mpr c79
                      subst c79
                      have H1 : (if t148 = true then (some false) else (if t145 = 0 then (if (t147.length : Int) = 0 then ((gunnylaw01_lives.f kj22).bind fun t157 => (some t157)) else (some false)) else (some false))) = some true := by rw [if_neg (show ¬ (false = true) by decide)] at H; exact H
                      clear H
                      have H := H1
                      clear H1
                      by_cases c81 : t148 = true
                      · subst c81
                        have H1 : (some false) = some true := by rw [if_pos rfl] at H; exact H
                        exact absurd H1 not_tt
                      · replace c81 := Bool.eq_false_iff.mpr c81
                        subst c81
                        have H1 : (if t145 = 0 then (if (t147.length : Int) = 0 then ((gunnylaw01_lives.f kj22).bind fun t157 => (some t157)) else (some false)) else (some false)) = some true := by rw [if_neg (show ¬ (false = true) by decide)] at H; exact H
                        clear H
                        have H := H1
                        clear H1
                        by_cases c83 : t145 = 0
                        · rw [if_pos c83] at H
                          have c83b0 : (t145 == 0) = true := beq_iff_eq.mpr c83
                          have c83b1 : (t145 != 0) = false := bne_eq_false_iff_eq.mpr c83
                          clear c83
                          by_cases c84 : (t147.length : Int) = 0
                          · rw [if_pos c84] at H
                            have c84b0 : ((t147.length : Int) == 0) = true := beq_iff_eq.mpr c84
                            have c84b1 : ((t147.length : Int) != 0) = false := bne_eq_false_iff_eq.mpr c84
                            clear c84
                            replace H := Option.bind_eq_some_iff.mp H
                            obtain ⟨t157, A850, H⟩ := H
                            replace H : (some t157) = some true := H
                            have A85 := Aside0.mk A850
                            clear A850
                            obtain rfl := Option.some.inj H
                            go_wp2_with (first | ((with_reducible refine gate_callee (f := 20) rfl ?_); refine goesL_ (some 74) rfl rfl Try.func20 (by kernel_rfl) rfl #[.slice A0 l0.length c0, .int .i64 a1, .int .i64 a3] rfl (by (try simp only [List.map_toArray, List.map_cons, List.map_nil]); first | done | rfl | (simp only [List.length_drop, List.length_take]; rfl)) ?_; (with_reducible refine (num_Get.calls kj22 _ _ l0 a1 a3 t145 false _ ?side1 ?side2 A30.out).mono ?_); (case side1 => repeat (first | exact (Kd.C_below HR0.out HB.out) | (with_reducible refine Kd.C_alloc ?_ _) | (with_reducible refine Kd.C_drewN ?_ _) | (with_reducible refine Kd.C_drew ?_))); (case side2 => exact HC0.out); rintro e w' ⟨rfl, ⟨nd, rfl⟩⟩; refine ⟨_, rfl, ?_⟩) | ((with_reducible refine gate_callee (f := 21) rfl ?_); refine goesL_ (some 82) rfl rfl Try.func21 (by kernel_rfl) rfl #[.slice A0 l0.length c0, .int .i64 a1, .int .i64 a3, .int .u64 x12_22] rfl (by (try simp only [List.map_toArray, List.map_cons, List.map_nil]); first | done | rfl | (simp only [List.length_drop, List.length_take]; rfl)) ?_; (with_reducible refine (num_Lay.calls _ _ l0 a1 a3 x12_22 t147 false _ ?side1 ?side2 A31.out).mono ?_); (case side1 => repeat (first | exact (Kd.C_below HR0.out (by repeat (first | (with_reducible first | exact HB.out | apply below_alloc | apply pw_below_drewN | apply below_drew1) | exact HB.out))) | (with_reducible refine Kd.C_alloc ?_ _) | (with_reducible refine Kd.C_drewN ?_ _) | (with_reducible refine Kd.C_drew ?_))); (case side2 => exact HC0.out); rintro e w86 ⟨v149, rfl, ho0, hb⟩; refine ⟨_, rfl, ?_⟩; have n0_ := Aside0.mk (Kd.R_lower ho0 (below_size (by repeat (first | (with_reducible first | exact HB.out | apply below_alloc | apply pw_below_drewN | apply below_drew1) | exact HB.out)))); have n1_ := Aside0.mk (below_step (by repeat (first | (with_reducible first | exact HB.out | apply below_alloc | apply pw_below_drewN | apply below_drew1) | exact HB.out)) hb); clear HB; have HO150 := n0_; have HB := n1_; clear n0_ n1_; (try clear hb); (try clear hb2); (try clear hk); (try clear hi); (try clear ho0)) | ((with_reducible refine gate_callee (f := 22) rfl ?_); refine goesL_ (some 88) rfl rfl Try.func22 (by kernel_rfl) rfl #[.slice A0 l0.length c0, .int .i64 a1, .int .i64 a3] rfl (by (try simp only [List.map_toArray, List.map_cons, List.map_nil]); first | done | rfl | (simp only [List.length_drop, List.length_take]; rfl)) ?_; (with_reducible refine (gunnyref01_There.calls _ _ l0 a1 a3 false _ ?side1 ?side2 A32.out).mono ?_); (case side1 => repeat (first | exact (Kd.C_below HR0.out HB.out) | (with_reducible refine Kd.C_alloc ?_ _) | (with_reducible refine Kd.C_drewN ?_ _) | (with_reducible refine Kd.C_drew ?_))); (case side2 => exact HC0.out); rintro e w' ⟨rfl, ⟨nd, rfl⟩⟩; refine ⟨_, rfl, ?_⟩; obtain ⟨Ao87, co87, eo87⟩ := Kd.R_slice HO150.out; subst eo87) | (go_at_call 9; (with_reducible refine (gunnylaw01_lives.calls kj22  true _ A85.out).mono ?_); rintro e w88 ⟨rfl, hb⟩; have n0_ := Aside0.mk (Kd.R_below (by (with_reducible repeat (first | apply Kd.R_alloc | apply Kd.R_drewN | apply Kd.R_drew)); exact HO150.out) hb); have n1_ := Aside0.mk (below_step (by repeat (first | (with_reducible first | exact HB.out | apply below_alloc | apply pw_below_drewN | apply below_drew1) | exact HB.out)) hb); clear HO150; clear HB; have HO150 := n0_; have HB := n1_; clear n0_ n1_; (try clear hb); (try clear hb2); (try clear hk); (try clear hi)))
                            go_ret
                            exact ⟨by first | rfl | (simp [errW_none, errW_some] <;> rfl) | (simp [*, errW_none, errW_some] <;> rfl), by repeat (first | (with_reducible first | exact HB.out | apply below_alloc | apply pw_below_drewN | apply below_drew1) | exact HB.out)⟩
                          · rw [if_neg c84] at H
                            exact absurd H not_tt
                        · rw [if_neg c83] at H
                          exact absurd H not_tt
            · replace c22 := Bool.eq_false_iff.mpr c22
              subst c22
              have H1 : (some false) = some true := by rw [if_neg (show ¬ (false = true) by decide)] at H; exact H
              exact absurd H1 not_tt
/-- THE ONE PURE STATEMENT of gunnylaw01_NumBytes: yours. -/
def gunnylaw01_NumBytes.Pure : Prop := ∀ (l0 : List Int) (a1 : Int) (l2 : List Int) (a3 : Int), l0.length ≤ maxLen → l0.length * 1 ≤ 140737488351232 → (∀ x ∈ l0, (Lit.int .u8 x).wf = true) → (Lit.int .i64 a1).wf = true → l2.length ≤ maxLen → l2.length * 8 ≤ 140737488351232 → (∀ x ∈ l2, (Lit.int .u64 x).wf = true) → (Lit.int .i64 a3).wf = true → ∃ k, gunnylaw01_NumBytes.f k l0 a1 l2 a3 = some true
theorem gunnylaw01_NumBytes.walk (P : gunnylaw01_NumBytes.Pure) (a0 : Option Addr) (len0 cap0 : Nat) (z0 : List Int) (a1 : Int) (a2 : Option Addr) (len2 cap2 : Nat) (z2 : List Int) (a3 : Int) (w : World) (w0 : (a0 = none ∧ len0 = 0 ∧ cap0 = 0 ∧ z0 = []) ∨ ∃ x, a0 = some x ∧ len0 ≤ cap0 ∧ cap0 ≤ maxLen ∧ z0.length = cap0 ∧ (∀ i, i < z0.length → w.cell? (x.add i) = some (.int .u8 (z0.getD i 0))) ∧ ∀ n ∈ z0, (Lit.int .u8 n).wf = true) (y0 : len0 * 1 ≤ 140737488351232) (w1 : (Lit.int .i64 a1).wf = true) (w2 : (a2 = none ∧ len2 = 0 ∧ cap2 = 0 ∧ z2 = []) ∨ ∃ x, a2 = some x ∧ len2 ≤ cap2 ∧ cap2 ≤ maxLen ∧ z2.length = cap2 ∧ (∀ i, i < z2.length → w.cell? (x.add i) = some (.int .u64 (z2.getD i 0))) ∧ ∀ n ∈ z2, (Lit.int .u64 n).wf = true) (y2 : len2 * 8 ≤ 140737488351232) (w3 : (Lit.int .i64 a3).wf = true) :
    Calls Try.prog 5 #[.slice a0 len0 cap0, .agg #[.int .i64 a1, .int .i64 a3], .slice a2 len2 cap2] w fun e w' => e = .returned (.bool true) ∧ Below w.heap.size w w' := by
  obtain ⟨l0, rfl, hr0, hm0, hw0, hc0⟩ := ReadsInt.ofRowC w0
  obtain ⟨l2, rfl, hr2, hm2, hw2, hc2⟩ := ReadsInt.ofRowC w2
  obtain ⟨k, h⟩ := P l0 a1 l2 a3 hm0 y0 hw0 w1 hm2 y2 hw2 w3
  refine (gunnylaw01_NumBytes.calls k _ _ l0 a1 _ _ l2 a3 w (Kd.C_of_reads (d := (0 : Int)) (h1 := fun _ => rfl) hr0) hc0 (Kd.C_of_reads (d := (0 : Int)) (h1 := fun _ => rfl) hr2) hc2 h).mono ?_
  rintro e w' ⟨rfl, hd⟩
  exact ⟨rfl, hd⟩

end Go.Proofs.Ytioabejegjhapaa.R
