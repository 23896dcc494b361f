-- written for this claim by a program (a patched print)
import Derived.Test.YtcadfblcpfhjfaaRx0
import Derived.Test.YtcadfblcpfhjfaaRx2
import Derived.Test.YtcadfblcpfhjfaaRx3
import Derived.Test.YtcadfblcpfhjfaaRx5
import Derived.Test.YtcadfblcpfhjfaaRx6
namespace Go.Proofs.Ytcadfblcpfhjfaa.R
open Go.RowKit Go.Proofs.YtcadfblcpfhjfaaW.PrintWords Go.Proofs.YtcadfblcpfhjfaaW.PrintLast Go.Proofs.YtcadfblcpfhjfaaW.PrintMore
attribute [local go_sem] max2_int min2_int max_two min_two max_three min_three max_four min_four   -- for this text's walks alone
set_option linter.unusedVariables false
set_option linter.unusedSimpArgs false

/-! ### gunnyref31_Touch: function 15 -/
def gunnyref31_Touch.l0 : Nat → Int → List Int → Int → Bool → Bool → Bool → Bool → Int → Int → Bool → Option (Int × Bool)
  | 0, _, _, _, _, _, _, _, _, _, _ => none
  | k + 1, x0, x1, x7, x201000, x201001, x201002, x201003, x201004, x201005, x201006 => if x7 < (x1.length : Int) then (if 0 ≤ x7 then (if (rd x1 x7) = 1 then (if (rd x1 x7) = 0 then (none) else (if (Int.tmod (wrap64 (Int.tdiv x201004 (rd x1 x7))) 2) = 0 then (some (x0, false)) else (if x201003 = true then (gunnyref31_Touch.l0 k x0 x1 (wrap64 (x7 + 1)) x201000 x201001 x201002 true x201004 x201005 x201006) else (gunnyref31_Touch.l0 k x0 x1 (wrap64 (x7 + 1)) x201000 x201001 x201002 ((rd x1 x7) == 2) x201004 x201005 x201006)))) else (if (rd x1 x7) = 2 then (if (rd x1 x7) = 0 then (none) else (if (Int.tmod (wrap64 (Int.tdiv x201004 (rd x1 x7))) 2) = 0 then (some (x0, false)) else (if x201003 = true then (gunnyref31_Touch.l0 k x0 x1 (wrap64 (x7 + 1)) x201000 x201001 x201002 true x201004 x201005 x201006) else (gunnyref31_Touch.l0 k x0 x1 (wrap64 (x7 + 1)) x201000 x201001 x201002 ((rd x1 x7) == 2) x201004 x201005 x201006)))) else (if (rd x1 x7) = 4 then (if (rd x1 x7) = 0 then (none) else (if (Int.tmod (wrap64 (Int.tdiv x201004 (rd x1 x7))) 2) = 0 then (some (x0, false)) else (if x201003 = true then (gunnyref31_Touch.l0 k x0 x1 (wrap64 (x7 + 1)) x201000 x201001 x201002 true x201004 x201005 x201006) else (gunnyref31_Touch.l0 k x0 x1 (wrap64 (x7 + 1)) x201000 x201001 x201002 ((rd x1 x7) == 2) x201004 x201005 x201006)))) else (some (x0, false))))) else (none)) else ((gunnyref31_Put.f x201000 x201001 x201002 x201003 x201004 x201005 x201006).bind fun t202 => (some (t202, true)))
def gunnyref31_Touch.f (k : Nat) (a0 : Int) (l1 : List Int) : Option (Int × Bool) := (gunnyref31_Kind.f k a0).bind fun t192 => (if t192 = 2 then ((gunnyref31_Read.f k a0).bind fun bt193 => (gunnyref31_Touch.l0 k a0 l1 0 bt193.1 bt193.2.1 true bt193.2.2.2.1 bt193.2.2.2.2.1 bt193.2.2.2.2.2.1 bt193.2.2.2.2.2.2)) else (some (a0, false)))
theorem gunnyref31_Touch.mono_l : ∀ k, (∀ y0 y1 y2 y3 y4 y5 y6 y7 y8 y9, LeO (gunnyref31_Touch.l0 k y0 y1 y2 y3 y4 y5 y6 y7 y8 y9) (gunnyref31_Touch.l0 (k + 1) y0 y1 y2 y3 y4 y5 y6 y7 y8 y9))
  | 0 => fun _ _ _ _ _ _ _ _ _ _ r h => by simp [gunnyref31_Touch.l0] at h
  | k + 1 => by
    have ih0 := gunnyref31_Touch.mono_l k
    · intro y0 y1 y2 y3 y4 y5 y6 y7 y8 y9
      unfold gunnyref31_Touch.l0
      repeat' first
      | (with_reducible exact ih0 _ _ _ _ _ _ _ _ _ _)
      | (with_reducible exact gunnyref31_Kind.mono _ _)
      | (with_reducible exact gunnyref31_Read.mono _ _)
      | (with_reducible exact LeO.refl _)
      | (with_reducible exact LeO.none _)
      | (with_reducible refine LeO.ite ?_ ?_)
      | (with_reducible refine LeO.bind ?_ (fun _ => ?_))
      | exact ih0 _ _ _ _ _ _ _ _ _ _
      | exact gunnyref31_Kind.mono _ _
      | exact gunnyref31_Read.mono _ _
      | exact LeO.none _
      | refine LeO.ite ?_ ?_
      | refine LeO.bind ?_ (fun _ => ?_)
theorem gunnyref31_Touch.mono : ∀ a0 a1 k, LeO (gunnyref31_Touch.f k a0 a1) (gunnyref31_Touch.f (k + 1) a0 a1) := by
  intro a0 a1 k
  have ih0 := gunnyref31_Touch.mono_l k
  unfold gunnyref31_Touch.f
  repeat' first
      | (with_reducible exact ih0 _ _ _ _ _ _ _ _ _ _)
      | (with_reducible exact gunnyref31_Kind.mono _ _)
      | (with_reducible exact gunnyref31_Read.mono _ _)
      | (with_reducible exact LeO.refl _)
      | (with_reducible exact LeO.none _)
      | (with_reducible refine LeO.ite ?_ ?_)
      | (with_reducible refine LeO.bind ?_ (fun _ => ?_))
      | exact ih0 _ _ _ _ _ _ _ _ _ _
      | exact gunnyref31_Kind.mono _ _
      | exact gunnyref31_Read.mono _ _
      | exact LeO.none _
      | refine LeO.ite ?_ ?_
      | refine LeO.bind ?_ (fun _ => ?_)
set_option maxHeartbeats 8000000 in
set_option maxRecDepth 100000 in
theorem gunnyref31_Touch.calls (k : Nat) (a0 : Int) (A1 : Option Addr) (c1 : Nat) (l1 : List Int) (r1 : Int) (r2 : Bool) (w : World) (hr1 : Kd.C (Kd.int .i64) w A1 l1.length l1) (hc1 : l1.length ≤ c1) (h : gunnyref31_Touch.f k a0 l1 = some (r1, r2)) :
    Calls Try.prog 15 #[.int .u64 a0, .slice A1 l1.length c1] w fun e w' => e = .returned (.tuple #[.int .u64 r1, .bool r2]) ∧ Below w.heap.size w w' := by
  have hu29 := Try.underlying29
  have HR1 := Aside0.mk hr1
  have HC1 := Aside0.mk hc1
  clear hr1 hc1
  have HB := Aside0.mk (Below.refl w.heap.size w)
  have H : ((gunnyref31_Kind.f k a0).bind fun t192 => (if t192 = 2 then ((gunnyref31_Read.f k a0).bind fun bt193 => (gunnyref31_Touch.l0 k a0 l1 0 bt193.1 bt193.2.1 true bt193.2.2.2.1 bt193.2.2.2.2.1 bt193.2.2.2.2.2.1 bt193.2.2.2.2.2.2)) else (some (a0, false)))) = some (r1, r2) := h
  clear h
  replace H := Option.bind_eq_some_iff.mp H
  obtain ⟨t192, A30, H⟩ := H
  replace H : (if t192 = 2 then ((gunnyref31_Read.f k a0).bind fun bt193 => (gunnyref31_Touch.l0 k a0 l1 0 bt193.1 bt193.2.1 true bt193.2.2.2.1 bt193.2.2.2.2.1 bt193.2.2.2.2.2.1 bt193.2.2.2.2.2.2)) else (some (a0, false))) = some (r1, r2) := H
  have A3 := Aside0.mk A30
  clear A30
  by_cases c4 : t192 = 2
  · rw [if_pos c4] at H
    have c4b0 : (t192 == 2) = true := beq_iff_eq.mpr c4
    have c4b1 : (t192 != 2) = false := bne_eq_false_iff_eq.mpr c4
    clear c4
    replace H := Option.bind_eq_some_iff.mp H
    obtain ⟨⟨t193, t194, t195, t196, t197, t198, t199⟩, A50, H⟩ := H
    replace H : (gunnyref31_Touch.l0 k a0 l1 0 t193 t194 true t196 t197 t198 t199) = some (r1, r2) := H
    have A5 := Aside0.mk A50
    clear A50
    have H' := Aside0.mk H
    clear H
    go_enter Try.func15, Try.ntmps15
    go_wp2_with (first | ((with_reducible refine gate_callee (f := 16) rfl ?_); refine goesL_ (some 10) rfl rfl Try.func16 (by kernel_rfl) rfl #[.int .u64 a0] rfl (by (try simp only [List.map_toArray, List.map_cons, List.map_nil]); first | done | rfl | (simp only [List.length_drop, List.length_take]; rfl)) ?_; (with_reducible refine (gunnyref31_Kind.calls k a0 t192 _ A3.out).mono ?_); rintro e w6 ⟨rfl, hb⟩; refine ⟨_, rfl, ?_⟩; have n0_ := Aside0.mk (below_step (by repeat (first | (with_reducible first | exact HB.out | apply below_alloc | apply pw_below_drewN | apply below_drew1) | exact HB.out)) hb); clear HB; have HB := n0_; clear n0_; (try clear hb); (try clear hb2); (try clear hk); (try clear hi)) | ((with_reducible refine gate_callee (f := 17) rfl ?_); refine goesL_ (some 14) rfl rfl Try.func17 (by kernel_rfl) rfl #[.int .u64 a0] rfl (by (try simp only [List.map_toArray, List.map_cons, List.map_nil]); first | done | rfl | (simp only [List.length_drop, List.length_take]; rfl)) ?_; (with_reducible refine (gunnyref31_Read.calls k a0 t193 t194 t195 t196 t197 t198 t199 _ A5.out).mono ?_); rintro e w7 ⟨rfl, hb⟩; refine ⟨_, rfl, ?_⟩; have n0_ := Aside0.mk (below_step (by repeat (first | (with_reducible first | exact HB.out | apply below_alloc | apply pw_below_drewN | apply below_drew1) | exact HB.out)) hb); clear HB; have HB := n0_; clear n0_; (try clear hb); (try clear hb2); (try clear hk); (try clear hi)) | ((with_reducible refine gate_dst (N := 6) rfl ?_); refine box_event ?hg (N := 6) ?hd (cs := #[.bool false, .bool false, .bool false, .bool false, .int .i64 0, .int .i64 0, .bool false]) (t := 29) ?hr ?_; (case hd => rfl); (case hg => rfl); (case hr => first | (go_simp; done) | (go_simp; rfl)); intro gb200 hg w8 hbox hb; have n0_ := Aside0.mk (below_step (by repeat (first | (with_reducible first | exact HB.out | apply below_alloc | apply pw_below_drewN | apply below_drew1) | exact HB.out)) hb); have n1_ := Aside0.mk (hbox); have n2_ := Aside0.mk ((by rw [hg]; exact (below_size (by repeat (first | (with_reducible first | exact HB.out | apply below_alloc | apply pw_below_drewN | apply below_drew1) | exact HB.out))) : w.heap.size ≤ gb200)); have n3_ := Aside0.mk ((by rw [hg]; exact (below_size (by repeat (first | (with_reducible first | exact HB.out | apply below_alloc | apply pw_below_drewN | apply below_drew1) | exact HB.out))) : w.heap.size ≤ gb200)); clear HB; have HB := n0_; have BK200 := n1_; have GW200 := n2_; have GE200 := n3_; clear n0_ n1_ n2_ n3_; clear hb hbox hg; have hcz9_0 : w8.cell? ⟨gb200, 0, none⟩ = some (.bool false) := (blk_cell BK200.out 0).trans rfl; have hcz9_1 : w8.cell? ⟨gb200, 1, none⟩ = some (.bool false) := (blk_cell BK200.out 1).trans rfl; have hcz9_2 : w8.cell? ⟨gb200, 2, none⟩ = some (.bool false) := (blk_cell BK200.out 2).trans rfl; have hcz9_3 : w8.cell? ⟨gb200, 3, none⟩ = some (.bool false) := (blk_cell BK200.out 3).trans rfl; have hcz9_4 : w8.cell? ⟨gb200, 4, none⟩ = some (.int .i64 0) := (blk_cell BK200.out 4).trans rfl; have hcz9_5 : w8.cell? ⟨gb200, 5, none⟩ = some (.int .i64 0) := (blk_cell BK200.out 5).trans rfl; have hcz9_6 : w8.cell? ⟨gb200, 6, none⟩ = some (.bool false) := (blk_cell BK200.out 6).trans rfl; have hfz9_0 := blk_frozen BK200.out 0; have hfz9_1 := blk_frozen BK200.out 1; have hfz9_2 := blk_frozen BK200.out 2; have hfz9_3 := blk_frozen BK200.out 3; have hfz9_4 := blk_frozen BK200.out 4; have hfz9_5 := blk_frozen BK200.out 5; have hfz9_6 := blk_frozen BK200.out 6))
    go_loopg [7] k (fun kq v7 w' => ∃ (x7_1 : Int) (x201003_1 : Bool), v7 = .int .i64 x7_1 ∧ Aside0 (gunnyref31_Touch.l0 kq a0 l1 x7_1 t193 t194 true x201003_1 t197 t198 t199 = some (r1, r2)) ∧ Aside0 (kq ≤ k) ∧ Aside0 (w'.heap[gb200]? = some (.cells #[.bool t193, .bool t194, .bool true, .bool x201003_1, .int .i64 t197, .int .i64 t198, .bool t199] 29 (0, 0))) ∧ Aside0 (Below w.heap.size w w'))
    case atStart => exact ⟨(0), (t196), (by first | rfl | (simp; done) | (simp [*]; done)), H', ⟨Nat.le_refl _⟩, ⟨by (with_reducible repeat (first | refine blk_drewN ?_ _ | refine blk_drew ?_ | refine blk_alloc ?_ _)); refine blk_put (cs := #[.bool t193, .bool t194, .bool t195, .bool t196, .int .i64 t197, .int .i64 t198, .bool t199]) ?_ 2 _ rfl; (with_reducible repeat (first | refine blk_drewN ?_ _ | refine blk_drew ?_ | refine blk_alloc ?_ _)); refine blk_put (cs := #[.bool t193, .bool t194, .bool t195, .bool t196, .int .i64 t197, .int .i64 t198, .bool false]) ?_ 6 _ rfl; (with_reducible repeat (first | refine blk_drewN ?_ _ | refine blk_drew ?_ | refine blk_alloc ?_ _)); refine blk_put (cs := #[.bool t193, .bool t194, .bool t195, .bool t196, .int .i64 t197, .int .i64 0, .bool false]) ?_ 5 _ rfl; (with_reducible repeat (first | refine blk_drewN ?_ _ | refine blk_drew ?_ | refine blk_alloc ?_ _)); refine blk_put (cs := #[.bool t193, .bool t194, .bool t195, .bool t196, .int .i64 0, .int .i64 0, .bool false]) ?_ 4 _ rfl; (with_reducible repeat (first | refine blk_drewN ?_ _ | refine blk_drew ?_ | refine blk_alloc ?_ _)); refine blk_put (cs := #[.bool t193, .bool t194, .bool t195, .bool false, .int .i64 0, .int .i64 0, .bool false]) ?_ 3 _ rfl; (with_reducible repeat (first | refine blk_drewN ?_ _ | refine blk_drew ?_ | refine blk_alloc ?_ _)); refine blk_put (cs := #[.bool t193, .bool t194, .bool false, .bool false, .int .i64 0, .int .i64 0, .bool false]) ?_ 2 _ rfl; (with_reducible repeat (first | refine blk_drewN ?_ _ | refine blk_drew ?_ | refine blk_alloc ?_ _)); refine blk_put (cs := #[.bool t193, .bool false, .bool false, .bool false, .int .i64 0, .int .i64 0, .bool false]) ?_ 1 _ rfl; (with_reducible repeat (first | refine blk_drewN ?_ _ | refine blk_drew ?_ | refine blk_alloc ?_ _)); refine blk_put (cs := #[.bool false, .bool false, .bool false, .bool false, .int .i64 0, .int .i64 0, .bool false]) ?_ 0 _ rfl; (with_reducible repeat (first | refine blk_drewN ?_ _ | refine blk_drew ?_ | refine blk_alloc ?_ _)); exact BK200.out⟩, ⟨by repeat (first | (with_reducible first | exact HB.out | apply below_alloc | apply pw_below_drewN | apply below_drew1 | refine below_set ?_ GE200.out) | exact HB.out)⟩⟩
    case round =>
      clear H'
      try clear c1
      try clear p2
      try clear c4
      try clear c4b0
      try clear c4b1
      try clear hcz9_0
      try clear hcz9_1
      try clear hcz9_2
      try clear hcz9_3
      try clear hcz9_4
      try clear hcz9_5
      try clear hcz9_6
      try clear hfz9_0
      try clear hfz9_1
      try clear hfz9_2
      try clear hfz9_3
      try clear hfz9_4
      try clear hfz9_5
      try clear hfz9_6
      obtain ⟨x7_1, x201003_1, rfl, HA, HK1, BK200, HB⟩ := hrel
      cases gk with
      | zero => exact absurd HA.out (by simp [gunnyref31_Touch.l0])
      | succ k1 =>
        have H := HA.out
        clear HA
        simp only [gunnyref31_Touch.l0] at H
        by_cases c10 : x7_1 < (l1.length : Int)
        · rw [if_pos c10] at H
          have c10b0 : decide (x7_1 < (l1.length : Int)) = true := decide_eq_true c10
          clear c10
          by_cases c11 : 0 ≤ x7_1
          · rw [if_pos c11] at H
            have c11b0 : decide (0 ≤ x7_1) = true := decide_eq_true c11
            clear c11
            by_cases c12 : (rd l1 x7_1) = 1
            · rw [if_pos c12] at H
              have c12b0 : ((rd l1 x7_1) == 1) = true := beq_iff_eq.mpr c12
              have c12b1 : ((rd l1 x7_1) != 1) = false := bne_eq_false_iff_eq.mpr c12
              clear c12
              by_cases c13 : (rd l1 x7_1) = 0
              · rw [if_pos c13] at H
                exact absurd H (by simp)
              · rw [if_neg c13] at H
                have c13b0 : ((rd l1 x7_1) == 0) = false := beq_eq_false_iff_ne.mpr c13
                have c13b1 : ((rd l1 x7_1) != 0) = true := bne_iff_ne.mpr c13
                by_cases c14 : (Int.tmod (wrap64 (Int.tdiv t197 (rd l1 x7_1))) 2) = 0
                · rw [if_pos c14] at H
                  have c14b0 : ((Int.tmod (wrap64 (Int.tdiv t197 (rd l1 x7_1))) 2) == 0) = true := beq_iff_eq.mpr c14
                  have c14b1 : ((Int.tmod (wrap64 (Int.tdiv t197 (rd l1 x7_1))) 2) != 0) = false := bne_eq_false_iff_eq.mpr c14
                  clear c14
                  simp only [Option.some.injEq, Prod.mk.injEq] at H
                  obtain ⟨rfl, rfl⟩ := H
                  have p201 : 0 ≤ (x7_1 : Int) := of_decide_eq_true (by first | (with_reducible assumption) | assumption)
                  have q201 : x7_1 < (l1.length : Int) := of_decide_eq_true (by first | (with_reducible assumption) | assumption)
                  obtain ⟨ad201, e201, hx201_0⟩ := Kd.at_int HR1.out x7_1 p201 q201
                  cases e201
                  replace hx201_0 := (HB.out.cell (World.block_lt_of_cell? w _ hx201_0)).trans hx201_0
                  replace p201 := eq_true p201
                  replace q201 := eq_true q201
                  have hcz15_0 : wr.cell? ⟨gb200, 0, none⟩ = some (.bool t193) := (blk_cell BK200.out 0).trans rfl
                  have hcz15_1 : wr.cell? ⟨gb200, 1, none⟩ = some (.bool t194) := (blk_cell BK200.out 1).trans rfl
                  have hcz15_2 : wr.cell? ⟨gb200, 2, none⟩ = some (.bool true) := (blk_cell BK200.out 2).trans rfl
                  have hcz15_3 : wr.cell? ⟨gb200, 3, none⟩ = some (.bool x201003_1) := (blk_cell BK200.out 3).trans rfl
                  have hcz15_4 : wr.cell? ⟨gb200, 4, none⟩ = some (.int .i64 t197) := (blk_cell BK200.out 4).trans rfl
                  have hcz15_5 : wr.cell? ⟨gb200, 5, none⟩ = some (.int .i64 t198) := (blk_cell BK200.out 5).trans rfl
                  have hcz15_6 : wr.cell? ⟨gb200, 6, none⟩ = some (.bool t199) := (blk_cell BK200.out 6).trans rfl
                  have hfz15_0 := blk_frozen BK200.out 0
                  have hfz15_1 := blk_frozen BK200.out 1
                  have hfz15_2 := blk_frozen BK200.out 2
                  have hfz15_3 := blk_frozen BK200.out 3
                  have hfz15_4 := blk_frozen BK200.out 4
                  have hfz15_5 := blk_frozen BK200.out 5
                  have hfz15_6 := blk_frozen BK200.out 6
                  go_wp2
                  go_ret2
                  exact ⟨by first | rfl | (simp [errW_none, errW_some] <;> rfl) | (simp [*, errW_none, errW_some] <;> rfl), by repeat (first | (with_reducible first | exact HB.out | apply below_alloc | apply pw_below_drewN | apply below_drew1 | refine below_set ?_ GE200.out) | exact HB.out)⟩
                · rw [if_neg c14] at H
                  have c14b0 : ((Int.tmod (wrap64 (Int.tdiv t197 (rd l1 x7_1))) 2) == 0) = false := beq_eq_false_iff_ne.mpr c14
                  have c14b1 : ((Int.tmod (wrap64 (Int.tdiv t197 (rd l1 x7_1))) 2) != 0) = true := bne_iff_ne.mpr c14
                  by_cases c16 : x201003_1 = true
                  · subst c16
                    have H1 : (gunnyref31_Touch.l0 k1 a0 l1 (wrap64 (x7_1 + 1)) t193 t194 true true t197 t198 t199) = some (r1, r2) := by rw [if_pos rfl] at H; exact H
                    clear H
                    have H := H1
                    clear H1
                    have H' := Aside0.mk H
                    clear H
                    have p201 : 0 ≤ (x7_1 : Int) := of_decide_eq_true (by first | (with_reducible assumption) | assumption)
                    have q201 : x7_1 < (l1.length : Int) := of_decide_eq_true (by first | (with_reducible assumption) | assumption)
                    obtain ⟨ad201, e201, hx201_0⟩ := Kd.at_int HR1.out x7_1 p201 q201
                    cases e201
                    replace hx201_0 := (HB.out.cell (World.block_lt_of_cell? w _ hx201_0)).trans hx201_0
                    replace p201 := eq_true p201
                    replace q201 := eq_true q201
                    have hcz17_0 : wr.cell? ⟨gb200, 0, none⟩ = some (.bool t193) := (blk_cell BK200.out 0).trans rfl
                    have hcz17_1 : wr.cell? ⟨gb200, 1, none⟩ = some (.bool t194) := (blk_cell BK200.out 1).trans rfl
                    have hcz17_2 : wr.cell? ⟨gb200, 2, none⟩ = some (.bool true) := (blk_cell BK200.out 2).trans rfl
                    have hcz17_3 : wr.cell? ⟨gb200, 3, none⟩ = some (.bool true) := (blk_cell BK200.out 3).trans rfl
                    have hcz17_4 : wr.cell? ⟨gb200, 4, none⟩ = some (.int .i64 t197) := (blk_cell BK200.out 4).trans rfl
                    have hcz17_5 : wr.cell? ⟨gb200, 5, none⟩ = some (.int .i64 t198) := (blk_cell BK200.out 5).trans rfl
                    have hcz17_6 : wr.cell? ⟨gb200, 6, none⟩ = some (.bool t199) := (blk_cell BK200.out 6).trans rfl
                    have hfz17_0 := blk_frozen BK200.out 0
                    have hfz17_1 := blk_frozen BK200.out 1
                    have hfz17_2 := blk_frozen BK200.out 2
                    have hfz17_3 := blk_frozen BK200.out 3
                    have hfz17_4 := blk_frozen BK200.out 4
                    have hfz17_5 := blk_frozen BK200.out 5
                    have hfz17_6 := blk_frozen BK200.out 6
                    go_wp2
                    go_roundg k1
                    case measure => have := HK1.out; omega
                    case rel => exact ⟨(wrap64 (x7_1 + 1)), (true), (by first | rfl | (simp; done) | (simp [*]; done)), H', ⟨by have := HK1.out; omega⟩, ⟨by (with_reducible repeat (first | refine blk_drewN ?_ _ | refine blk_drew ?_ | refine blk_alloc ?_ _)); refine blk_put (cs := #[.bool t193, .bool t194, .bool true, .bool true, .int .i64 t197, .int .i64 t198, .bool t199]) ?_ 3 _ rfl; (with_reducible repeat (first | refine blk_drewN ?_ _ | refine blk_drew ?_ | refine blk_alloc ?_ _)); exact BK200.out⟩, ⟨by repeat (first | (with_reducible first | exact HB.out | apply below_alloc | apply pw_below_drewN | apply below_drew1 | refine below_set ?_ GE200.out) | exact HB.out)⟩⟩
                  · replace c16 := Bool.eq_false_iff.mpr c16
                    subst c16
                    have H1 : (gunnyref31_Touch.l0 k1 a0 l1 (wrap64 (x7_1 + 1)) t193 t194 true ((rd l1 x7_1) == 2) t197 t198 t199) = some (r1, r2) := by rw [if_neg (show ¬ (false = true) by decide)] at H; exact H
                    clear H
                    have H := H1
                    clear H1
                    have H' := Aside0.mk H
                    clear H
                    have p201 : 0 ≤ (x7_1 : Int) := of_decide_eq_true (by first | (with_reducible assumption) | assumption)
                    have q201 : x7_1 < (l1.length : Int) := of_decide_eq_true (by first | (with_reducible assumption) | assumption)
                    obtain ⟨ad201, e201, hx201_0⟩ := Kd.at_int HR1.out x7_1 p201 q201
                    cases e201
                    replace hx201_0 := (HB.out.cell (World.block_lt_of_cell? w _ hx201_0)).trans hx201_0
                    replace p201 := eq_true p201
                    replace q201 := eq_true q201
                    have hcz18_0 : wr.cell? ⟨gb200, 0, none⟩ = some (.bool t193) := (blk_cell BK200.out 0).trans rfl
                    have hcz18_1 : wr.cell? ⟨gb200, 1, none⟩ = some (.bool t194) := (blk_cell BK200.out 1).trans rfl
                    have hcz18_2 : wr.cell? ⟨gb200, 2, none⟩ = some (.bool true) := (blk_cell BK200.out 2).trans rfl
                    have hcz18_3 : wr.cell? ⟨gb200, 3, none⟩ = some (.bool false) := (blk_cell BK200.out 3).trans rfl
                    have hcz18_4 : wr.cell? ⟨gb200, 4, none⟩ = some (.int .i64 t197) := (blk_cell BK200.out 4).trans rfl
                    have hcz18_5 : wr.cell? ⟨gb200, 5, none⟩ = some (.int .i64 t198) := (blk_cell BK200.out 5).trans rfl
                    have hcz18_6 : wr.cell? ⟨gb200, 6, none⟩ = some (.bool t199) := (blk_cell BK200.out 6).trans rfl
                    have hfz18_0 := blk_frozen BK200.out 0
                    have hfz18_1 := blk_frozen BK200.out 1
                    have hfz18_2 := blk_frozen BK200.out 2
                    have hfz18_3 := blk_frozen BK200.out 3
                    have hfz18_4 := blk_frozen BK200.out 4
                    have hfz18_5 := blk_frozen BK200.out 5
                    have hfz18_6 := blk_frozen BK200.out 6
                    go_wp2
                    go_roundg k1
                    case measure => have := HK1.out; omega
                    case rel => exact ⟨(wrap64 (x7_1 + 1)), (((rd l1 x7_1) == 2)), (by first | rfl | (simp; done) | (simp [*]; done)), H', ⟨by have := HK1.out; omega⟩, ⟨by (with_reducible repeat (first | refine blk_drewN ?_ _ | refine blk_drew ?_ | refine blk_alloc ?_ _)); refine blk_put (cs := #[.bool t193, .bool t194, .bool true, .bool false, .int .i64 t197, .int .i64 t198, .bool t199]) ?_ 3 _ rfl; (with_reducible repeat (first | refine blk_drewN ?_ _ | refine blk_drew ?_ | refine blk_alloc ?_ _)); exact BK200.out⟩, ⟨by repeat (first | (with_reducible first | exact HB.out | apply below_alloc | apply pw_below_drewN | apply below_drew1 | refine below_set ?_ GE200.out) | exact HB.out)⟩⟩
            · rw [if_neg c12] at H
              have c12b0 : ((rd l1 x7_1) == 1) = false := beq_eq_false_iff_ne.mpr c12
              have c12b1 : ((rd l1 x7_1) != 1) = true := bne_iff_ne.mpr c12
              by_cases c19 : (rd l1 x7_1) = 2
              · rw [if_pos c19] at H
                have c19b0 : ((rd l1 x7_1) == 2) = true := beq_iff_eq.mpr c19
                have c19b1 : ((rd l1 x7_1) != 2) = false := bne_eq_false_iff_eq.mpr c19
                clear c19
                by_cases c20 : (rd l1 x7_1) = 0
                · rw [if_pos c20] at H
                  exact absurd H (by simp)
                · rw [if_neg c20] at H
                  have c20b0 : ((rd l1 x7_1) == 0) = false := beq_eq_false_iff_ne.mpr c20
                  have c20b1 : ((rd l1 x7_1) != 0) = true := bne_iff_ne.mpr c20
                  by_cases c21 : (Int.tmod (wrap64 (Int.tdiv t197 (rd l1 x7_1))) 2) = 0
                  · rw [if_pos c21] at H
                    have c21b0 : ((Int.tmod (wrap64 (Int.tdiv t197 (rd l1 x7_1))) 2) == 0) = true := beq_iff_eq.mpr c21
                    have c21b1 : ((Int.tmod (wrap64 (Int.tdiv t197 (rd l1 x7_1))) 2) != 0) = false := bne_eq_false_iff_eq.mpr c21
                    clear c21
                    simp only [Option.some.injEq, Prod.mk.injEq] at H
                    obtain ⟨rfl, rfl⟩ := H
                    have p201 : 0 ≤ (x7_1 : Int) := of_decide_eq_true (by first | (with_reducible assumption) | assumption)
                    have q201 : x7_1 < (l1.length : Int) := of_decide_eq_true (by first | (with_reducible assumption) | assumption)
                    obtain ⟨ad201, e201, hx201_0⟩ := Kd.at_int HR1.out x7_1 p201 q201
                    cases e201
                    replace hx201_0 := (HB.out.cell (World.block_lt_of_cell? w _ hx201_0)).trans hx201_0
                    replace p201 := eq_true p201
                    replace q201 := eq_true q201
                    have hcz22_0 : wr.cell? ⟨gb200, 0, none⟩ = some (.bool t193) := (blk_cell BK200.out 0).trans rfl
                    have hcz22_1 : wr.cell? ⟨gb200, 1, none⟩ = some (.bool t194) := (blk_cell BK200.out 1).trans rfl
                    have hcz22_2 : wr.cell? ⟨gb200, 2, none⟩ = some (.bool true) := (blk_cell BK200.out 2).trans rfl
                    have hcz22_3 : wr.cell? ⟨gb200, 3, none⟩ = some (.bool x201003_1) := (blk_cell BK200.out 3).trans rfl
                    have hcz22_4 : wr.cell? ⟨gb200, 4, none⟩ = some (.int .i64 t197) := (blk_cell BK200.out 4).trans rfl
                    have hcz22_5 : wr.cell? ⟨gb200, 5, none⟩ = some (.int .i64 t198) := (blk_cell BK200.out 5).trans rfl
                    have hcz22_6 : wr.cell? ⟨gb200, 6, none⟩ = some (.bool t199) := (blk_cell BK200.out 6).trans rfl
                    have hfz22_0 := blk_frozen BK200.out 0
                    have hfz22_1 := blk_frozen BK200.out 1
                    have hfz22_2 := blk_frozen BK200.out 2
                    have hfz22_3 := blk_frozen BK200.out 3
                    have hfz22_4 := blk_frozen BK200.out 4
                    have hfz22_5 := blk_frozen BK200.out 5
                    have hfz22_6 := blk_frozen BK200.out 6
                    go_wp2
                    go_ret2
                    exact ⟨by first | rfl | (simp [errW_none, errW_some] <;> rfl) | (simp [*, errW_none, errW_some] <;> rfl), by repeat (first | (with_reducible first | exact HB.out | apply below_alloc | apply pw_below_drewN | apply below_drew1 | refine below_set ?_ GE200.out) | exact HB.out)⟩
                  · rw [if_neg c21] at H
                    have c21b0 : ((Int.tmod (wrap64 (Int.tdiv t197 (rd l1 x7_1))) 2) == 0) = false := beq_eq_false_iff_ne.mpr c21
                    have c21b1 : ((Int.tmod (wrap64 (Int.tdiv t197 (rd l1 x7_1))) 2) != 0) = true := bne_iff_ne.mpr c21
                    by_cases c23 : x201003_1 = true
                    · subst c23
                      have H1 : (gunnyref31_Touch.l0 k1 a0 l1 (wrap64 (x7_1 + 1)) t193 t194 true true t197 t198 t199) = some (r1, r2) := by rw [if_pos rfl] at H; exact H
                      clear H
                      have H := H1
                      clear H1
                      have H' := Aside0.mk H
                      clear H
                      have p201 : 0 ≤ (x7_1 : Int) := of_decide_eq_true (by first | (with_reducible assumption) | assumption)
                      have q201 : x7_1 < (l1.length : Int) := of_decide_eq_true (by first | (with_reducible assumption) | assumption)
                      obtain ⟨ad201, e201, hx201_0⟩ := Kd.at_int HR1.out x7_1 p201 q201
                      cases e201
                      replace hx201_0 := (HB.out.cell (World.block_lt_of_cell? w _ hx201_0)).trans hx201_0
                      replace p201 := eq_true p201
                      replace q201 := eq_true q201
                      have hcz24_0 : wr.cell? ⟨gb200, 0, none⟩ = some (.bool t193) := (blk_cell BK200.out 0).trans rfl
                      have hcz24_1 : wr.cell? ⟨gb200, 1, none⟩ = some (.bool t194) := (blk_cell BK200.out 1).trans rfl
                      have hcz24_2 : wr.cell? ⟨gb200, 2, none⟩ = some (.bool true) := (blk_cell BK200.out 2).trans rfl
                      have hcz24_3 : wr.cell? ⟨gb200, 3, none⟩ = some (.bool true) := (blk_cell BK200.out 3).trans rfl
                      have hcz24_4 : wr.cell? ⟨gb200, 4, none⟩ = some (.int .i64 t197) := (blk_cell BK200.out 4).trans rfl
                      have hcz24_5 : wr.cell? ⟨gb200, 5, none⟩ = some (.int .i64 t198) := (blk_cell BK200.out 5).trans rfl
                      have hcz24_6 : wr.cell? ⟨gb200, 6, none⟩ = some (.bool t199) := (blk_cell BK200.out 6).trans rfl
                      have hfz24_0 := blk_frozen BK200.out 0
                      have hfz24_1 := blk_frozen BK200.out 1
                      have hfz24_2 := blk_frozen BK200.out 2
                      have hfz24_3 := blk_frozen BK200.out 3
                      have hfz24_4 := blk_frozen BK200.out 4
                      have hfz24_5 := blk_frozen BK200.out 5
                      have hfz24_6 := blk_frozen BK200.out 6
                      go_wp2
                      go_roundg k1
                      case measure => have := HK1.out; omega
                      case rel => exact ⟨(wrap64 (x7_1 + 1)), (true), (by first | rfl | (simp; done) | (simp [*]; done)), H', ⟨by have := HK1.out; omega⟩, ⟨by (with_reducible repeat (first | refine blk_drewN ?_ _ | refine blk_drew ?_ | refine blk_alloc ?_ _)); refine blk_put (cs := #[.bool t193, .bool t194, .bool true, .bool true, .int .i64 t197, .int .i64 t198, .bool t199]) ?_ 3 _ rfl; (with_reducible repeat (first | refine blk_drewN ?_ _ | refine blk_drew ?_ | refine blk_alloc ?_ _)); exact BK200.out⟩, ⟨by repeat (first | (with_reducible first | exact HB.out | apply below_alloc | apply pw_below_drewN | apply below_drew1 | refine below_set ?_ GE200.out) | exact HB.out)⟩⟩
                    · replace c23 := Bool.eq_false_iff.mpr c23
                      subst c23
                      have H1 : (gunnyref31_Touch.l0 k1 a0 l1 (wrap64 (x7_1 + 1)) t193 t194 true ((rd l1 x7_1) == 2) t197 t198 t199) = some (r1, r2) := by rw [if_neg (show ¬ (false = true) by decide)] at H; exact H
                      clear H
                      have H := H1
                      clear H1
                      have H' := Aside0.mk H
                      clear H
                      have p201 : 0 ≤ (x7_1 : Int) := of_decide_eq_true (by first | (with_reducible assumption) | assumption)
                      have q201 : x7_1 < (l1.length : Int) := of_decide_eq_true (by first | (with_reducible assumption) | assumption)
                      obtain ⟨ad201, e201, hx201_0⟩ := Kd.at_int HR1.out x7_1 p201 q201
                      cases e201
                      replace hx201_0 := (HB.out.cell (World.block_lt_of_cell? w _ hx201_0)).trans hx201_0
                      replace p201 := eq_true p201
                      replace q201 := eq_true q201
                      have hcz25_0 : wr.cell? ⟨gb200, 0, none⟩ = some (.bool t193) := (blk_cell BK200.out 0).trans rfl
                      have hcz25_1 : wr.cell? ⟨gb200, 1, none⟩ = some (.bool t194) := (blk_cell BK200.out 1).trans rfl
                      have hcz25_2 : wr.cell? ⟨gb200, 2, none⟩ = some (.bool true) := (blk_cell BK200.out 2).trans rfl
                      have hcz25_3 : wr.cell? ⟨gb200, 3, none⟩ = some (.bool false) := (blk_cell BK200.out 3).trans rfl
                      have hcz25_4 : wr.cell? ⟨gb200, 4, none⟩ = some (.int .i64 t197) := (blk_cell BK200.out 4).trans rfl
                      have hcz25_5 : wr.cell? ⟨gb200, 5, none⟩ = some (.int .i64 t198) := (blk_cell BK200.out 5).trans rfl
                      have hcz25_6 : wr.cell? ⟨gb200, 6, none⟩ = some (.bool t199) := (blk_cell BK200.out 6).trans rfl
                      have hfz25_0 := blk_frozen BK200.out 0
                      have hfz25_1 := blk_frozen BK200.out 1
                      have hfz25_2 := blk_frozen BK200.out 2
                      have hfz25_3 := blk_frozen BK200.out 3
                      have hfz25_4 := blk_frozen BK200.out 4
                      have hfz25_5 := blk_frozen BK200.out 5
                      have hfz25_6 := blk_frozen BK200.out 6
                      go_wp2
                      go_roundg k1
                      case measure => have := HK1.out; omega
                      case rel => exact ⟨(wrap64 (x7_1 + 1)), (true), (by first | rfl | (simp; done) | (simp [*]; done)), (by (have ez : (rd l1 x7_1 == 2) = true := by assumption); rw [ez] at H'; exact H'), ⟨by have := HK1.out; omega⟩, ⟨by (with_reducible repeat (first | refine blk_drewN ?_ _ | refine blk_drew ?_ | refine blk_alloc ?_ _)); refine blk_put (cs := #[.bool t193, .bool t194, .bool true, .bool false, .int .i64 t197, .int .i64 t198, .bool t199]) ?_ 3 _ rfl; (with_reducible repeat (first | refine blk_drewN ?_ _ | refine blk_drew ?_ | refine blk_alloc ?_ _)); exact BK200.out⟩, ⟨by repeat (first | (with_reducible first | exact HB.out | apply below_alloc | apply pw_below_drewN | apply below_drew1 | refine below_set ?_ GE200.out) | exact HB.out)⟩⟩
              · rw [if_neg c19] at H
                have c19b0 : ((rd l1 x7_1) == 2) = false := beq_eq_false_iff_ne.mpr c19
                have c19b1 : ((rd l1 x7_1) != 2) = true := bne_iff_ne.mpr c19
                by_cases c26 : (rd l1 x7_1) = 4
                · rw [if_pos c26] at H
                  have c26b0 : ((rd l1 x7_1) == 4) = true := beq_iff_eq.mpr c26
                  have c26b1 : ((rd l1 x7_1) != 4) = false := bne_eq_false_iff_eq.mpr c26
                  clear c26
                  by_cases c27 : (rd l1 x7_1) = 0
                  · rw [if_pos c27] at H
                    exact absurd H (by simp)
                  · rw [if_neg c27] at H
                    have c27b0 : ((rd l1 x7_1) == 0) = false := beq_eq_false_iff_ne.mpr c27
                    have c27b1 : ((rd l1 x7_1) != 0) = true := bne_iff_ne.mpr c27
                    by_cases c28 : (Int.tmod (wrap64 (Int.tdiv t197 (rd l1 x7_1))) 2) = 0
                    · rw [if_pos c28] at H
                      have c28b0 : ((Int.tmod (wrap64 (Int.tdiv t197 (rd l1 x7_1))) 2) == 0) = true := beq_iff_eq.mpr c28
                      have c28b1 : ((Int.tmod (wrap64 (Int.tdiv t197 (rd l1 x7_1))) 2) != 0) = false := bne_eq_false_iff_eq.mpr c28
                      clear c28
                      simp only [Option.some.injEq, Prod.mk.injEq] at H
                      obtain ⟨rfl, rfl⟩ := H
                      have p201 : 0 ≤ (x7_1 : Int) := of_decide_eq_true (by first | (with_reducible assumption) | assumption)
                      have q201 : x7_1 < (l1.length : Int) := of_decide_eq_true (by first | (with_reducible assumption) | assumption)
                      obtain ⟨ad201, e201, hx201_0⟩ := Kd.at_int HR1.out x7_1 p201 q201
                      cases e201
                      replace hx201_0 := (HB.out.cell (World.block_lt_of_cell? w _ hx201_0)).trans hx201_0
                      replace p201 := eq_true p201
                      replace q201 := eq_true q201
                      have hcz29_0 : wr.cell? ⟨gb200, 0, none⟩ = some (.bool t193) := (blk_cell BK200.out 0).trans rfl
                      have hcz29_1 : wr.cell? ⟨gb200, 1, none⟩ = some (.bool t194) := (blk_cell BK200.out 1).trans rfl
                      have hcz29_2 : wr.cell? ⟨gb200, 2, none⟩ = some (.bool true) := (blk_cell BK200.out 2).trans rfl
                      have hcz29_3 : wr.cell? ⟨gb200, 3, none⟩ = some (.bool x201003_1) := (blk_cell BK200.out 3).trans rfl
                      have hcz29_4 : wr.cell? ⟨gb200, 4, none⟩ = some (.int .i64 t197) := (blk_cell BK200.out 4).trans rfl
                      have hcz29_5 : wr.cell? ⟨gb200, 5, none⟩ = some (.int .i64 t198) := (blk_cell BK200.out 5).trans rfl
                      have hcz29_6 : wr.cell? ⟨gb200, 6, none⟩ = some (.bool t199) := (blk_cell BK200.out 6).trans rfl
                      have hfz29_0 := blk_frozen BK200.out 0
                      have hfz29_1 := blk_frozen BK200.out 1
                      have hfz29_2 := blk_frozen BK200.out 2
                      have hfz29_3 := blk_frozen BK200.out 3
                      have hfz29_4 := blk_frozen BK200.out 4
                      have hfz29_5 := blk_frozen BK200.out 5
                      have hfz29_6 := blk_frozen BK200.out 6
                      go_wp2
                      go_ret2
                      exact ⟨by first | rfl | (simp [errW_none, errW_some] <;> rfl) | (simp [*, errW_none, errW_some] <;> rfl), by repeat (first | (with_reducible first | exact HB.out | apply below_alloc | apply pw_below_drewN | apply below_drew1 | refine below_set ?_ GE200.out) | exact HB.out)⟩
                    · rw [if_neg c28] at H
                      have c28b0 : ((Int.tmod (wrap64 (Int.tdiv t197 (rd l1 x7_1))) 2) == 0) = false := beq_eq_false_iff_ne.mpr c28
                      have c28b1 : ((Int.tmod (wrap64 (Int.tdiv t197 (rd l1 x7_1))) 2) != 0) = true := bne_iff_ne.mpr c28
                      by_cases c30 : x201003_1 = true
                      · subst c30
                        have H1 : (gunnyref31_Touch.l0 k1 a0 l1 (wrap64 (x7_1 + 1)) t193 t194 true true t197 t198 t199) = some (r1, r2) := by rw [if_pos rfl] at H; exact H
                        clear H
                        have H := H1
                        clear H1
                        have H' := Aside0.mk H
                        clear H
                        have p201 : 0 ≤ (x7_1 : Int) := of_decide_eq_true (by first | (with_reducible assumption) | assumption)
                        have q201 : x7_1 < (l1.length : Int) := of_decide_eq_true (by first | (with_reducible assumption) | assumption)
                        obtain ⟨ad201, e201, hx201_0⟩ := Kd.at_int HR1.out x7_1 p201 q201
                        cases e201
                        replace hx201_0 := (HB.out.cell (World.block_lt_of_cell? w _ hx201_0)).trans hx201_0
                        replace p201 := eq_true p201
                        replace q201 := eq_true q201
                        have hcz31_0 : wr.cell? ⟨gb200, 0, none⟩ = some (.bool t193) := (blk_cell BK200.out 0).trans rfl
                        have hcz31_1 : wr.cell? ⟨gb200, 1, none⟩ = some (.bool t194) := (blk_cell BK200.out 1).trans rfl
                        have hcz31_2 : wr.cell? ⟨gb200, 2, none⟩ = some (.bool true) := (blk_cell BK200.out 2).trans rfl
                        have hcz31_3 : wr.cell? ⟨gb200, 3, none⟩ = some (.bool true) := (blk_cell BK200.out 3).trans rfl
                        have hcz31_4 : wr.cell? ⟨gb200, 4, none⟩ = some (.int .i64 t197) := (blk_cell BK200.out 4).trans rfl
                        have hcz31_5 : wr.cell? ⟨gb200, 5, none⟩ = some (.int .i64 t198) := (blk_cell BK200.out 5).trans rfl
                        have hcz31_6 : wr.cell? ⟨gb200, 6, none⟩ = some (.bool t199) := (blk_cell BK200.out 6).trans rfl
                        have hfz31_0 := blk_frozen BK200.out 0
                        have hfz31_1 := blk_frozen BK200.out 1
                        have hfz31_2 := blk_frozen BK200.out 2
                        have hfz31_3 := blk_frozen BK200.out 3
                        have hfz31_4 := blk_frozen BK200.out 4
                        have hfz31_5 := blk_frozen BK200.out 5
                        have hfz31_6 := blk_frozen BK200.out 6
                        go_wp2
                        go_roundg k1
                        case measure => have := HK1.out; omega
                        case rel => exact ⟨(wrap64 (x7_1 + 1)), (true), (by first | rfl | (simp; done) | (simp [*]; done)), H', ⟨by have := HK1.out; omega⟩, ⟨by (with_reducible repeat (first | refine blk_drewN ?_ _ | refine blk_drew ?_ | refine blk_alloc ?_ _)); refine blk_put (cs := #[.bool t193, .bool t194, .bool true, .bool true, .int .i64 t197, .int .i64 t198, .bool t199]) ?_ 3 _ rfl; (with_reducible repeat (first | refine blk_drewN ?_ _ | refine blk_drew ?_ | refine blk_alloc ?_ _)); exact BK200.out⟩, ⟨by repeat (first | (with_reducible first | exact HB.out | apply below_alloc | apply pw_below_drewN | apply below_drew1 | refine below_set ?_ GE200.out) | exact HB.out)⟩⟩
                      · replace c30 := Bool.eq_false_iff.mpr c30
                        subst c30
                        have H1 : (gunnyref31_Touch.l0 k1 a0 l1 (wrap64 (x7_1 + 1)) t193 t194 true ((rd l1 x7_1) == 2) t197 t198 t199) = some (r1, r2) := by rw [if_neg (show ¬ (false = true) by decide)] at H; exact H
                        clear H
                        have H := H1
                        clear H1
                        have H' := Aside0.mk H
                        clear H
                        have p201 : 0 ≤ (x7_1 : Int) := of_decide_eq_true (by first | (with_reducible assumption) | assumption)
                        have q201 : x7_1 < (l1.length : Int) := of_decide_eq_true (by first | (with_reducible assumption) | assumption)
                        obtain ⟨ad201, e201, hx201_0⟩ := Kd.at_int HR1.out x7_1 p201 q201
                        cases e201
                        replace hx201_0 := (HB.out.cell (World.block_lt_of_cell? w _ hx201_0)).trans hx201_0
                        replace p201 := eq_true p201
                        replace q201 := eq_true q201
                        have hcz32_0 : wr.cell? ⟨gb200, 0, none⟩ = some (.bool t193) := (blk_cell BK200.out 0).trans rfl
                        have hcz32_1 : wr.cell? ⟨gb200, 1, none⟩ = some (.bool t194) := (blk_cell BK200.out 1).trans rfl
                        have hcz32_2 : wr.cell? ⟨gb200, 2, none⟩ = some (.bool true) := (blk_cell BK200.out 2).trans rfl
                        have hcz32_3 : wr.cell? ⟨gb200, 3, none⟩ = some (.bool false) := (blk_cell BK200.out 3).trans rfl
                        have hcz32_4 : wr.cell? ⟨gb200, 4, none⟩ = some (.int .i64 t197) := (blk_cell BK200.out 4).trans rfl
                        have hcz32_5 : wr.cell? ⟨gb200, 5, none⟩ = some (.int .i64 t198) := (blk_cell BK200.out 5).trans rfl
                        have hcz32_6 : wr.cell? ⟨gb200, 6, none⟩ = some (.bool t199) := (blk_cell BK200.out 6).trans rfl
                        have hfz32_0 := blk_frozen BK200.out 0
                        have hfz32_1 := blk_frozen BK200.out 1
                        have hfz32_2 := blk_frozen BK200.out 2
                        have hfz32_3 := blk_frozen BK200.out 3
                        have hfz32_4 := blk_frozen BK200.out 4
                        have hfz32_5 := blk_frozen BK200.out 5
                        have hfz32_6 := blk_frozen BK200.out 6
                        go_wp2
                        go_roundg k1
                        case measure => have := HK1.out; omega
                        case rel => exact ⟨(wrap64 (x7_1 + 1)), (false), (by first | rfl | (simp; done) | (simp [*]; done)), (by (have ez : (rd l1 x7_1 == 2) = false := by assumption); rw [ez] at H'; exact H'), ⟨by have := HK1.out; omega⟩, ⟨by (with_reducible repeat (first | refine blk_drewN ?_ _ | refine blk_drew ?_ | refine blk_alloc ?_ _)); refine blk_put (cs := #[.bool t193, .bool t194, .bool true, .bool false, .int .i64 t197, .int .i64 t198, .bool t199]) ?_ 3 _ rfl; (with_reducible repeat (first | refine blk_drewN ?_ _ | refine blk_drew ?_ | refine blk_alloc ?_ _)); exact BK200.out⟩, ⟨by repeat (first | (with_reducible first | exact HB.out | apply below_alloc | apply pw_below_drewN | apply below_drew1 | refine below_set ?_ GE200.out) | exact HB.out)⟩⟩
                · rw [if_neg c26] at H
                  have c26b0 : ((rd l1 x7_1) == 4) = false := beq_eq_false_iff_ne.mpr c26
                  have c26b1 : ((rd l1 x7_1) != 4) = true := bne_iff_ne.mpr c26
                  simp only [Option.some.injEq, Prod.mk.injEq] at H
                  obtain ⟨rfl, rfl⟩ := H
                  have p201 : 0 ≤ (x7_1 : Int) := of_decide_eq_true (by first | (with_reducible assumption) | assumption)
                  have q201 : x7_1 < (l1.length : Int) := of_decide_eq_true (by first | (with_reducible assumption) | assumption)
                  obtain ⟨ad201, e201, hx201_0⟩ := Kd.at_int HR1.out x7_1 p201 q201
                  cases e201
                  replace hx201_0 := (HB.out.cell (World.block_lt_of_cell? w _ hx201_0)).trans hx201_0
                  replace p201 := eq_true p201
                  replace q201 := eq_true q201
                  go_wp2
                  go_ret2
                  exact ⟨by first | rfl | (simp [errW_none, errW_some] <;> rfl) | (simp [*, errW_none, errW_some] <;> rfl), by repeat (first | (with_reducible first | exact HB.out | apply below_alloc | apply pw_below_drewN | apply below_drew1 | refine below_set ?_ GE200.out) | exact HB.out)⟩
          · rw [if_neg c11] at H
            exact absurd H (by simp)
        · rw [if_neg c10] at H
          have c10b0 : decide (x7_1 < (l1.length : Int)) = false := decide_eq_false c10
          clear c10
          replace H := Option.bind_eq_some_iff.mp H
          obtain ⟨t202, A330, H⟩ := H
          replace H : (some (t202, true)) = some (r1, r2) := H
          have A33 := Aside0.mk A330
          clear A330
          simp only [Option.some.injEq, Prod.mk.injEq] at H
          obtain ⟨rfl, rfl⟩ := H
          have hcz34_0 : wr.cell? ⟨gb200, 0, none⟩ = some (.bool t193) := (blk_cell BK200.out 0).trans rfl
          have hcz34_1 : wr.cell? ⟨gb200, 1, none⟩ = some (.bool t194) := (blk_cell BK200.out 1).trans rfl
          have hcz34_2 : wr.cell? ⟨gb200, 2, none⟩ = some (.bool true) := (blk_cell BK200.out 2).trans rfl
          have hcz34_3 : wr.cell? ⟨gb200, 3, none⟩ = some (.bool x201003_1) := (blk_cell BK200.out 3).trans rfl
          have hcz34_4 : wr.cell? ⟨gb200, 4, none⟩ = some (.int .i64 t197) := (blk_cell BK200.out 4).trans rfl
          have hcz34_5 : wr.cell? ⟨gb200, 5, none⟩ = some (.int .i64 t198) := (blk_cell BK200.out 5).trans rfl
          have hcz34_6 : wr.cell? ⟨gb200, 6, none⟩ = some (.bool t199) := (blk_cell BK200.out 6).trans rfl
          have hfz34_0 := blk_frozen BK200.out 0
          have hfz34_1 := blk_frozen BK200.out 1
          have hfz34_2 := blk_frozen BK200.out 2
          have hfz34_3 := blk_frozen BK200.out 3
          have hfz34_4 := blk_frozen BK200.out 4
          have hfz34_5 := blk_frozen BK200.out 5
          have hfz34_6 := blk_frozen BK200.out 6
          go_wp2_with (first | ((with_reducible refine gate_callee (f := 12) rfl ?_); refine goesL_ (some 53) rfl rfl Try.func12 (by kernel_rfl) rfl #[.agg #[.bool t193, .bool t194, .bool true, .bool x201003_1, .int .i64 t197, .int .i64 t198, .bool t199]] rfl (by (try simp only [List.map_toArray, List.map_cons, List.map_nil]); first | done | rfl | (simp only [List.length_drop, List.length_take]; rfl)) ?_; (with_reducible refine (gunnyref31_Put.calls t193 t194 true x201003_1 t197 t198 t199 t202 _ A33.out).mono ?_); rintro e w35 ⟨rfl, hb⟩; refine ⟨_, rfl, ?_⟩; have n0_ := Aside0.mk (blk_below (g := gb200) (o := .cells #[.bool t193, .bool t194, .bool true, .bool x201003_1, .int .i64 t197, .int .i64 t198, .bool t199] 29 (0, 0)) (by (with_reducible repeat (first | refine blk_drewN ?_ _ | refine blk_drew ?_ | refine blk_alloc ?_ _)); exact BK200.out) hb); have n1_ := Aside0.mk (below_step (by repeat (first | (with_reducible first | exact HB.out | apply below_alloc | apply pw_below_drewN | apply below_drew1 | refine below_set ?_ GE200.out) | exact HB.out)) hb); clear BK200; clear HB; have BK200 := n0_; have HB := n1_; clear n0_ n1_; (try clear hb); (try clear hb2); (try clear hk); (try clear hi)))
          go_ret2
          exact ⟨by first | rfl | (simp [errW_none, errW_some] <;> rfl) | (simp [*, errW_none, errW_some] <;> rfl), by repeat (first | (with_reducible first | exact HB.out | apply below_alloc | apply pw_below_drewN | apply below_drew1 | refine below_set ?_ GE200.out) | exact HB.out)⟩
  · rw [if_neg c4] at H
    have c4b0 : (t192 == 2) = false := beq_eq_false_iff_ne.mpr c4
    have c4b1 : (t192 != 2) = true := bne_iff_ne.mpr c4
    simp only [Option.some.injEq, Prod.mk.injEq] at H
    obtain ⟨rfl, rfl⟩ := H
    go_enter Try.func15, Try.ntmps15
    go_wp2_with (first | ((with_reducible refine gate_callee (f := 16) rfl ?_); refine goesL_ (some 10) rfl rfl Try.func16 (by kernel_rfl) rfl #[.int .u64 a0] rfl (by (try simp only [List.map_toArray, List.map_cons, List.map_nil]); first | done | rfl | (simp only [List.length_drop, List.length_take]; rfl)) ?_; (with_reducible refine (gunnyref31_Kind.calls k a0 t192 _ A3.out).mono ?_); rintro e w36 ⟨rfl, hb⟩; refine ⟨_, rfl, ?_⟩; have n0_ := Aside0.mk (below_step (by repeat (first | (with_reducible first | exact HB.out | apply below_alloc | apply pw_below_drewN | apply below_drew1) | exact HB.out)) hb); clear HB; have HB := n0_; clear n0_; (try clear hb); (try clear hb2); (try clear hk); (try clear hi)))
    go_ret2
    exact ⟨by first | rfl | (simp [errW_none, errW_some] <;> rfl) | (simp [*, errW_none, errW_some] <;> rfl), by repeat (first | (with_reducible first | exact HB.out | apply below_alloc | apply pw_below_drewN | apply below_drew1) | exact HB.out)⟩

/-! ### gunnylaw31_PteTouches: function 4 -/
def gunnylaw31_PteTouches.f (k : Nat) (a0 : Int) (l1 : List Int) : Option (Bool) := if (l1.length : Int) > 50 then ((gunnylaw31_lives.f k).bind fun t203 => (some t203)) else ((pte_Touch.f k a0 l1).bind fun bt204 => ((gunnyref31_Touch.f k a0 l1).bind fun bt206 => (if bt204.1 = bt206.1 then (if (bt204.2 == bt206.2) = true then ((gunnylaw31_lives.f k).bind fun t208 => (some t208)) else (some false)) else (some false))))
theorem gunnylaw31_PteTouches.mono : ∀ a0 a1 k, LeO (gunnylaw31_PteTouches.f k a0 a1) (gunnylaw31_PteTouches.f (k + 1) a0 a1) := by
  intro a0 a1 k
  unfold gunnylaw31_PteTouches.f
  repeat' first
      | (with_reducible exact gunnylaw31_lives.mono _)
      | (with_reducible exact gunnyref31_Touch.mono _ _ _)
      | (with_reducible exact pte_Touch.mono _ _ _)
      | (with_reducible exact LeO.refl _)
      | (with_reducible exact LeO.none _)
      | (with_reducible refine LeO.ite ?_ ?_)
      | (with_reducible refine LeO.bind ?_ (fun _ => ?_))
      | exact gunnylaw31_lives.mono _
      | exact gunnyref31_Touch.mono _ _ _
      | exact pte_Touch.mono _ _ _
      | exact LeO.none _
      | refine LeO.ite ?_ ?_
      | refine LeO.bind ?_ (fun _ => ?_)
set_option maxHeartbeats 8000000 in
set_option maxRecDepth 100000 in
theorem gunnylaw31_PteTouches.calls (k : Nat) (a0 : Int) (A1 : Option Addr) (c1 : Nat) (l1 : List Int) (r : Bool) (w : World) (hr1 : Kd.C (Kd.int .i64) w A1 l1.length l1) (hc1 : l1.length ≤ c1) (h : gunnylaw31_PteTouches.f k a0 l1 = some r) :
    Calls Try.prog 4 #[.int .u64 a0, .slice A1 l1.length c1] w fun e w' => e = .returned (.bool r) ∧ Below w.heap.size w w' := by
  have HR1 := Aside0.mk hr1
  have HC1 := Aside0.mk hc1
  clear hr1 hc1
  have HB := Aside0.mk (Below.refl w.heap.size w)
  have H : (if (l1.length : Int) > 50 then ((gunnylaw31_lives.f k).bind fun t203 => (some t203)) else ((pte_Touch.f k a0 l1).bind fun bt204 => ((gunnyref31_Touch.f k a0 l1).bind fun bt206 => (if bt204.1 = bt206.1 then (if (bt204.2 == bt206.2) = true then ((gunnylaw31_lives.f k).bind fun t208 => (some t208)) else (some false)) else (some false))))) = some r := h
  clear h
  by_cases c3 : (l1.length : Int) > 50
  · rw [if_pos c3] at H
    have c3b0 : decide (50 < (l1.length : Int)) = true := decide_eq_true c3
    have c3b1 : decide (50 < l1.length) = true := decide_eq_true (by omega)
    clear c3
    replace H := Option.bind_eq_some_iff.mp H
    obtain ⟨t203, A40, H⟩ := H
    replace H : (some t203) = some r := H
    have A4 := Aside0.mk A40
    clear A40
    obtain rfl := Option.some.inj H
    go_enter Try.func4, Try.ntmps4
    go_wp2_with (first | ((with_reducible refine gate_callee (f := 13) rfl ?_); refine goesL_ (some 12) rfl rfl Try.func13 (by kernel_rfl) rfl #[] rfl (by (try simp only [List.map_toArray, List.map_cons, List.map_nil]); first | done | rfl | (simp only [List.length_drop, List.length_take]; rfl)) ?_; (with_reducible refine (gunnylaw31_lives.calls k  t203 _ A4.out).mono ?_); rintro e w5 ⟨rfl, hb⟩; refine ⟨_, rfl, ?_⟩; have n0_ := Aside0.mk (below_step (by repeat (first | (with_reducible first | exact HB.out | apply below_alloc | apply pw_below_drewN | apply below_drew1) | exact HB.out)) hb); clear HB; have HB := n0_; clear n0_; (try clear hb); (try clear hb2); (try clear hk); (try clear hi)))
    go_ret
    exact ⟨by first | rfl | (simp [errW_none, errW_some] <;> rfl) | (simp [*, errW_none, errW_some] <;> rfl), by repeat (first | (with_reducible first | exact HB.out | apply below_alloc | apply pw_below_drewN | apply below_drew1) | exact HB.out)⟩
  · rw [if_neg c3] at H
    have c3b0 : decide (50 < (l1.length : Int)) = false := decide_eq_false c3
    have c3b1 : decide (50 < l1.length) = false := decide_eq_false (by omega)
    clear c3
    replace H := Option.bind_eq_some_iff.mp H
    obtain ⟨⟨t204, t205⟩, A60, H⟩ := H
    replace H : ((gunnyref31_Touch.f k a0 l1).bind fun bt206 => (if t204 = bt206.1 then (if (t205 == bt206.2) = true then ((gunnylaw31_lives.f k).bind fun t208 => (some t208)) else (some false)) else (some false))) = some r := H
    have A6 := Aside0.mk A60
    clear A60
    replace H := Option.bind_eq_some_iff.mp H
    obtain ⟨⟨t206, t207⟩, A70, H⟩ := H
    replace H : (if t204 = t206 then (if (t205 == t207) = true then ((gunnylaw31_lives.f k).bind fun t208 => (some t208)) else (some false)) else (some false)) = some r := H
    have A7 := Aside0.mk A70
    clear A70
    by_cases c8 : t204 = t206
    · rw [if_pos c8] at H
      have c8b0 : (t204 == t206) = true := beq_iff_eq.mpr c8
      have c8b1 : (t204 != t206) = false := bne_eq_false_iff_eq.mpr c8
      clear c8
      by_cases c9 : (t205 == t207) = true
      · rw [if_pos c9] at H
        have c9b0 : (t205 == t207) = true := c9
        (try (have c9b1 : decide (t205 = t207) = true := by simpa using c9))
        (try (have c9b2 : (t205 == t207) = true := by simpa using c9))
        clear c9
        replace H := Option.bind_eq_some_iff.mp H
        obtain ⟨t208, A100, H⟩ := H
        replace H : (some t208) = some r := H
        have A10 := Aside0.mk A100
        clear A100
        obtain rfl := Option.some.inj H
        go_enter Try.func4, Try.ntmps4
        go_wp2_with (first | ((with_reducible refine gate_callee (f := 14) rfl ?_); refine goesL_ (some 16) rfl rfl Try.func14 (by kernel_rfl) rfl #[.int .u64 a0, .slice A1 l1.length c1] rfl (by (try simp only [List.map_toArray, List.map_cons, List.map_nil]); first | done | rfl | (simp only [List.length_drop, List.length_take]; rfl)) ?_; (with_reducible refine (pte_Touch.calls k a0 _ _ l1 t204 t205 _ ?side1 ?side2 A6.out).mono ?_); (case side1 => repeat (first | exact HR1.out | (with_reducible refine Kd.C_alloc ?_ _) | (with_reducible refine Kd.C_drewN ?_ _) | (with_reducible refine Kd.C_drew ?_))); (case side2 => exact HC1.out); rintro e w11 ⟨rfl, hb⟩; refine ⟨_, rfl, ?_⟩; have n0_ := Aside0.mk (below_step (by repeat (first | (with_reducible first | exact HB.out | apply below_alloc | apply pw_below_drewN | apply below_drew1) | exact HB.out)) hb); clear HB; have HB := n0_; clear n0_; (try clear hb); (try clear hb2); (try clear hk); (try clear hi)) | ((with_reducible refine gate_callee (f := 15) rfl ?_); refine goesL_ (some 22) rfl rfl Try.func15 (by kernel_rfl) rfl #[.int .u64 a0, .slice A1 l1.length c1] rfl (by (try simp only [List.map_toArray, List.map_cons, List.map_nil]); first | done | rfl | (simp only [List.length_drop, List.length_take]; rfl)) ?_; (with_reducible refine (gunnyref31_Touch.calls k a0 _ _ l1 t206 t207 _ ?side1 ?side2 A7.out).mono ?_); (case side1 => repeat (first | exact (Kd.C_below HR1.out HB.out) | (with_reducible refine Kd.C_alloc ?_ _) | (with_reducible refine Kd.C_drewN ?_ _) | (with_reducible refine Kd.C_drew ?_))); (case side2 => exact HC1.out); rintro e w12 ⟨rfl, hb⟩; refine ⟨_, rfl, ?_⟩; have n0_ := Aside0.mk (below_step (by repeat (first | (with_reducible first | exact HB.out | apply below_alloc | apply pw_below_drewN | apply below_drew1) | exact HB.out)) hb); clear HB; have HB := n0_; clear n0_; (try clear hb); (try clear hb2); (try clear hk); (try clear hi)) | (go_at_call 13; (with_reducible refine (gunnylaw31_lives.calls k  t208 _ A10.out).mono ?_); rintro e w13 ⟨rfl, hb⟩; have n0_ := Aside0.mk (below_step (by repeat (first | (with_reducible first | exact HB.out | apply below_alloc | apply pw_below_drewN | apply below_drew1) | exact HB.out)) hb); clear HB; have HB := n0_; clear n0_; (try clear hb); (try clear hb2); (try clear hk); (try clear hi)))
        go_ret
        exact ⟨by first | rfl | (simp [errW_none, errW_some] <;> rfl) | (simp [*, errW_none, errW_some] <;> rfl), by repeat (first | (with_reducible first | exact HB.out | apply below_alloc | apply pw_below_drewN | apply below_drew1) | exact HB.out)⟩
      · rw [if_neg c9] at H
        have c9b0 : (t205 == t207) = false := by simpa using c9
        (try (have c9b1 : decide (t205 = t207) = false := by simpa using c9))
        (try (have c9b2 : (t205 == t207) = false := by simpa using c9))
        (try (have c9b3 : ¬ (t205 = t207) := by simpa using c9))
        clear c9
        obtain rfl := Option.some.inj H
        go_enter Try.func4, Try.ntmps4
        go_wp2_with (first | ((with_reducible refine gate_callee (f := 14) rfl ?_); refine goesL_ (some 16) rfl rfl Try.func14 (by kernel_rfl) rfl #[.int .u64 a0, .slice A1 l1.length c1] rfl (by (try simp only [List.map_toArray, List.map_cons, List.map_nil]); first | done | rfl | (simp only [List.length_drop, List.length_take]; rfl)) ?_; (with_reducible refine (pte_Touch.calls k a0 _ _ l1 t204 t205 _ ?side1 ?side2 A6.out).mono ?_); (case side1 => repeat (first | exact HR1.out | (with_reducible refine Kd.C_alloc ?_ _) | (with_reducible refine Kd.C_drewN ?_ _) | (with_reducible refine Kd.C_drew ?_))); (case side2 => exact HC1.out); rintro e w14 ⟨rfl, hb⟩; refine ⟨_, rfl, ?_⟩; have n0_ := Aside0.mk (below_step (by repeat (first | (with_reducible first | exact HB.out | apply below_alloc | apply pw_below_drewN | apply below_drew1) | exact HB.out)) hb); clear HB; have HB := n0_; clear n0_; (try clear hb); (try clear hb2); (try clear hk); (try clear hi)) | ((with_reducible refine gate_callee (f := 15) rfl ?_); refine goesL_ (some 22) rfl rfl Try.func15 (by kernel_rfl) rfl #[.int .u64 a0, .slice A1 l1.length c1] rfl (by (try simp only [List.map_toArray, List.map_cons, List.map_nil]); first | done | rfl | (simp only [List.length_drop, List.length_take]; rfl)) ?_; (with_reducible refine (gunnyref31_Touch.calls k a0 _ _ l1 t206 t207 _ ?side1 ?side2 A7.out).mono ?_); (case side1 => repeat (first | exact (Kd.C_below HR1.out HB.out) | (with_reducible refine Kd.C_alloc ?_ _) | (with_reducible refine Kd.C_drewN ?_ _) | (with_reducible refine Kd.C_drew ?_))); (case side2 => exact HC1.out); rintro e w15 ⟨rfl, hb⟩; refine ⟨_, rfl, ?_⟩; have n0_ := Aside0.mk (below_step (by repeat (first | (with_reducible first | exact HB.out | apply below_alloc | apply pw_below_drewN | apply below_drew1) | exact HB.out)) hb); clear HB; have HB := n0_; clear n0_; (try clear hb); (try clear hb2); (try clear hk); (try clear hi)))
        go_ret
        exact ⟨by first | rfl | (simp [errW_none, errW_some] <;> rfl) | (simp [*, errW_none, errW_some] <;> rfl), by repeat (first | (with_reducible first | exact HB.out | apply below_alloc | apply pw_below_drewN | apply below_drew1) | exact HB.out)⟩
    · rw [if_neg c8] at H
      have c8b0 : (t204 == t206) = false := beq_eq_false_iff_ne.mpr c8
      have c8b1 : (t204 != t206) = true := bne_iff_ne.mpr c8
      obtain rfl := Option.some.inj H
      go_enter Try.func4, Try.ntmps4
      go_wp2_with (first | ((with_reducible refine gate_callee (f := 14) rfl ?_); refine goesL_ (some 16) rfl rfl Try.func14 (by kernel_rfl) rfl #[.int .u64 a0, .slice A1 l1.length c1] rfl (by (try simp only [List.map_toArray, List.map_cons, List.map_nil]); first | done | rfl | (simp only [List.length_drop, List.length_take]; rfl)) ?_; (with_reducible refine (pte_Touch.calls k a0 _ _ l1 t204 t205 _ ?side1 ?side2 A6.out).mono ?_); (case side1 => repeat (first | exact HR1.out | (with_reducible refine Kd.C_alloc ?_ _) | (with_reducible refine Kd.C_drewN ?_ _) | (with_reducible refine Kd.C_drew ?_))); (case side2 => exact HC1.out); rintro e w16 ⟨rfl, hb⟩; refine ⟨_, rfl, ?_⟩; have n0_ := Aside0.mk (below_step (by repeat (first | (with_reducible first | exact HB.out | apply below_alloc | apply pw_below_drewN | apply below_drew1) | exact HB.out)) hb); clear HB; have HB := n0_; clear n0_; (try clear hb); (try clear hb2); (try clear hk); (try clear hi)) | ((with_reducible refine gate_callee (f := 15) rfl ?_); refine goesL_ (some 22) rfl rfl Try.func15 (by kernel_rfl) rfl #[.int .u64 a0, .slice A1 l1.length c1] rfl (by (try simp only [List.map_toArray, List.map_cons, List.map_nil]); first | done | rfl | (simp only [List.length_drop, List.length_take]; rfl)) ?_; (with_reducible refine (gunnyref31_Touch.calls k a0 _ _ l1 t206 t207 _ ?side1 ?side2 A7.out).mono ?_); (case side1 => repeat (first | exact (Kd.C_below HR1.out HB.out) | (with_reducible refine Kd.C_alloc ?_ _) | (with_reducible refine Kd.C_drewN ?_ _) | (with_reducible refine Kd.C_drew ?_))); (case side2 => exact HC1.out); rintro e w17 ⟨rfl, hb⟩; refine ⟨_, rfl, ?_⟩; have n0_ := Aside0.mk (below_step (by repeat (first | (with_reducible first | exact HB.out | apply below_alloc | apply pw_below_drewN | apply below_drew1) | exact HB.out)) hb); clear HB; have HB := n0_; clear n0_; (try clear hb); (try clear hb2); (try clear hk); (try clear hi)))
      go_ret
      exact ⟨by first | rfl | (simp [errW_none, errW_some] <;> rfl) | (simp [*, errW_none, errW_some] <;> rfl), by repeat (first | (with_reducible first | exact HB.out | apply below_alloc | apply pw_below_drewN | apply below_drew1) | exact HB.out)⟩

/-- THE ONE PURE STATEMENT of gunnylaw31_PteTouches: yours. -/
def gunnylaw31_PteTouches.Pure : Prop := ∀ (a0 : Int) (l1 : List Int), (Lit.int .u64 a0).wf = true → l1.length ≤ maxLen → l1.length * 8 ≤ 140737488351232 → (∀ x ∈ l1, (Lit.int .i64 x).wf = true) → ∃ k, gunnylaw31_PteTouches.f k a0 l1 = some true
theorem gunnylaw31_PteTouches.walk (P : gunnylaw31_PteTouches.Pure) (a0 : Int) (a1 : Option Addr) (len1 cap1 : Nat) (z1 : List Int) (w : World) (w0 : (Lit.int .u64 a0).wf = true) (w1 : (a1 = none ∧ len1 = 0 ∧ cap1 = 0 ∧ z1 = []) ∨ ∃ x, a1 = some x ∧ len1 ≤ cap1 ∧ cap1 ≤ maxLen ∧ z1.length = cap1 ∧ (∀ i, i < z1.length → w.cell? (x.add i) = some (.int .i64 (z1.getD i 0))) ∧ ∀ n ∈ z1, (Lit.int .i64 n).wf = true) (y1 : len1 * 8 ≤ 140737488351232) :
    Calls Try.prog 4 #[.int .u64 a0, .slice a1 len1 cap1] w fun e w' => e = .returned (.bool true) ∧ Below w.heap.size w w' := by
  obtain ⟨l1, rfl, hr1, hm1, hw1, hc1⟩ := ReadsInt.ofRowC w1
  obtain ⟨k, h⟩ := P a0 l1 w0 hm1 y1 hw1
  refine (gunnylaw31_PteTouches.calls k a0 _ _ l1 true w (Kd.C_of_reads (d := (0 : Int)) (h1 := fun _ => rfl) hr1) hc1 h).mono ?_
  rintro e w' ⟨rfl, hd⟩
  exact ⟨rfl, hd⟩

/-! ### pte_Flags: function 18 -/
def pte_Flags.f (k : Nat) (a0 : Int) : Option (Bool × Bool) := (pte_Kind.f k a0).bind fun t209 => (if t209 = 2 then ((num_Bit.f k a0 6).bind fun t210 => ((num_Bit.f k a0 7).bind fun t211 => (some (t210, t211)))) else (some (false, false)))
theorem pte_Flags.mono : ∀ a0 k, LeO (pte_Flags.f k a0) (pte_Flags.f (k + 1) a0) := by
  intro a0 k
  unfold pte_Flags.f
  repeat' first
      | (with_reducible exact num_Bit.mono _ _ _)
      | (with_reducible exact pte_Kind.mono _ _)
      | (with_reducible exact LeO.refl _)
      | (with_reducible exact LeO.none _)
      | (with_reducible refine LeO.ite ?_ ?_)
      | (with_reducible refine LeO.bind ?_ (fun _ => ?_))
      | exact num_Bit.mono _ _ _
      | exact pte_Kind.mono _ _
      | exact LeO.none _
      | refine LeO.ite ?_ ?_
      | refine LeO.bind ?_ (fun _ => ?_)
set_option maxHeartbeats 8000000 in
set_option maxRecDepth 100000 in
theorem pte_Flags.calls (k : Nat) (a0 : Int) (r1 : Bool) (r2 : Bool) (w : World) (h : pte_Flags.f k a0 = some (r1, r2)) :
    Calls Try.prog 18 #[.int .u64 a0] w fun e w' => e = .returned (.tuple #[.bool r1, .bool r2]) ∧ Below w.heap.size w w' := by
  have HB := Aside0.mk (Below.refl w.heap.size w)
  have H : ((pte_Kind.f k a0).bind fun t209 => (if t209 = 2 then ((num_Bit.f k a0 6).bind fun t210 => ((num_Bit.f k a0 7).bind fun t211 => (some (t210, t211)))) else (some (false, false)))) = some (r1, r2) := h
  clear h
  replace H := Option.bind_eq_some_iff.mp H
  obtain ⟨t209, A20, H⟩ := H
  replace H : (if t209 = 2 then ((num_Bit.f k a0 6).bind fun t210 => ((num_Bit.f k a0 7).bind fun t211 => (some (t210, t211)))) else (some (false, false))) = some (r1, r2) := H
  have A2 := Aside0.mk A20
  clear A20
  by_cases c3 : t209 = 2
  · rw [if_pos c3] at H
    have c3b0 : (t209 == 2) = true := beq_iff_eq.mpr c3
    have c3b1 : (t209 != 2) = false := bne_eq_false_iff_eq.mpr c3
    clear c3
    replace H := Option.bind_eq_some_iff.mp H
    obtain ⟨t210, A40, H⟩ := H
    replace H : ((num_Bit.f k a0 7).bind fun t211 => (some (t210, t211))) = some (r1, r2) := H
    have A4 := Aside0.mk A40
    clear A40
    replace H := Option.bind_eq_some_iff.mp H
    obtain ⟨t211, A50, H⟩ := H
    replace H : (some (t210, t211)) = some (r1, r2) := H
    have A5 := Aside0.mk A50
    clear A50
    simp only [Option.some.injEq, Prod.mk.injEq] at H
    obtain ⟨rfl, rfl⟩ := H
    go_enter Try.func18, Try.ntmps18
    go_wp2_with (first | ((with_reducible refine gate_callee (f := 19) rfl ?_); refine goesL_ (some 5) rfl rfl Try.func19 (by kernel_rfl) rfl #[.int .u64 a0] rfl (by (try simp only [List.map_toArray, List.map_cons, List.map_nil]); first | done | rfl | (simp only [List.length_drop, List.length_take]; rfl)) ?_; (with_reducible refine (pte_Kind.calls k a0 t209 _ A2.out).mono ?_); rintro e w6 ⟨rfl, hb⟩; refine ⟨_, rfl, ?_⟩; have n0_ := Aside0.mk (below_step (by repeat (first | (with_reducible first | exact HB.out | apply below_alloc | apply pw_below_drewN | apply below_drew1) | exact HB.out)) hb); clear HB; have HB := n0_; clear n0_; (try clear hb); (try clear hb2); (try clear hk); (try clear hi)) | ((with_reducible refine gate_callee (f := 29) rfl ?_); refine goesL_ (some 8) rfl rfl Try.func29 (by kernel_rfl) rfl #[.int .u64 a0, .int .i64 6] rfl (by (try simp only [List.map_toArray, List.map_cons, List.map_nil]); first | done | rfl | (simp only [List.length_drop, List.length_take]; rfl)) ?_; (with_reducible refine (num_Bit.calls k a0 6 t210 _ A4.out).mono ?_); rintro e w' ⟨rfl, ⟨nd, rfl⟩⟩; refine ⟨_, rfl, ?_⟩) | ((with_reducible refine gate_callee (f := 29) rfl ?_); refine goesL_ (some 10) rfl rfl Try.func29 (by kernel_rfl) rfl #[.int .u64 a0, .int .i64 7] rfl (by (try simp only [List.map_toArray, List.map_cons, List.map_nil]); first | done | rfl | (simp only [List.length_drop, List.length_take]; rfl)) ?_; (with_reducible refine (num_Bit.calls k a0 7 t211 _ A5.out).mono ?_); rintro e w' ⟨rfl, ⟨nd, rfl⟩⟩; refine ⟨_, rfl, ?_⟩))
    go_ret2
    exact ⟨by first | rfl | (simp [errW_none, errW_some] <;> rfl) | (simp [*, errW_none, errW_some] <;> rfl), by repeat (first | (with_reducible first | exact HB.out | apply below_alloc | apply pw_below_drewN | apply below_drew1) | exact HB.out)⟩
  · rw [if_neg c3] at H
    have c3b0 : (t209 == 2) = false := beq_eq_false_iff_ne.mpr c3
    have c3b1 : (t209 != 2) = true := bne_iff_ne.mpr c3
    simp only [Option.some.injEq, Prod.mk.injEq] at H
    obtain ⟨rfl, rfl⟩ := H
    go_enter Try.func18, Try.ntmps18
    go_wp2_with (first | ((with_reducible refine gate_callee (f := 19) rfl ?_); refine goesL_ (some 5) rfl rfl Try.func19 (by kernel_rfl) rfl #[.int .u64 a0] rfl (by (try simp only [List.map_toArray, List.map_cons, List.map_nil]); first | done | rfl | (simp only [List.length_drop, List.length_take]; rfl)) ?_; (with_reducible refine (pte_Kind.calls k a0 t209 _ A2.out).mono ?_); rintro e w7 ⟨rfl, hb⟩; refine ⟨_, rfl, ?_⟩; have n0_ := Aside0.mk (below_step (by repeat (first | (with_reducible first | exact HB.out | apply below_alloc | apply pw_below_drewN | apply below_drew1) | exact HB.out)) hb); clear HB; have HB := n0_; clear n0_; (try clear hb); (try clear hb2); (try clear hk); (try clear hi)))
    go_ret2
    exact ⟨by first | rfl | (simp [errW_none, errW_some] <;> rfl) | (simp [*, errW_none, errW_some] <;> rfl), by repeat (first | (with_reducible first | exact HB.out | apply below_alloc | apply pw_below_drewN | apply below_drew1) | exact HB.out)⟩

end Go.Proofs.Ytcadfblcpfhjfaa.R
