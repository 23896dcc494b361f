-- written for this claim by a program (a patched print)
import Derived.Test.YtcadfblcpfhjfaaRx0
import Derived.Test.YtcadfblcpfhjfaaRx2
import Derived.Test.YtcadfblcpfhjfaaRx5
namespace Go.Proofs.Ytcadfblcpfhjfaa.R
open Go.RowKit Go.Proofs.YtcadfblcpfhjfaaW.PrintWords Go.Proofs.YtcadfblcpfhjfaaW.PrintLast Go.Proofs.YtcadfblcpfhjfaaW.PrintMore
attribute [local go_sem] max2_int min2_int max_two min_two max_three min_three max_four min_four   -- for this text's walks alone
set_option linter.unusedVariables false
set_option linter.unusedSimpArgs false

/-! ### gunnyref31_Kind: function 16 -/
mutual
def gunnyref31_Kind.j0 : Nat → Bool → Bool → Bool → Bool → Bool → Int → Int → Bool → Option (Int)
  | 0, _, _, _, _, _, _, _, _ => none
  | k + 1, x4, x190000, x190001, x190002, x190003, x190004, x190005, x190006 => if x190000 = true then (if x190004 = 0 then (if x190001 = true then (gunnyref31_Kind.j1 k x4 false x190000 x190001 x190002 x190003 x190004 x190005 x190006) else (if x4 = true then (gunnyref31_Kind.j1 k x4 (decide (x190005 < 96)) x190000 x190001 x190002 x190003 x190004 x190005 x190006) else (gunnyref31_Kind.j1 k x4 false x190000 x190001 x190002 x190003 x190004 x190005 x190006))) else (gunnyref31_Kind.j1 k x4 false x190000 x190001 x190002 x190003 x190004 x190005 x190006)) else (gunnyref31_Kind.j1 k x4 false x190000 x190001 x190002 x190003 x190004 x190005 x190006)
def gunnyref31_Kind.j1 : Nat → Bool → Bool → Bool → Bool → Bool → Bool → Int → Int → Bool → Option (Int)
  | 0, _, _, _, _, _, _, _, _, _ => none
  | k + 1, x4, x38, x190000, x190001, x190002, x190003, x190004, x190005, x190006 => if x38 = true then (some 1) else (if x190000 = true then (if x190001 = true then ((gunnyref31_May.f x190004).bind fun t190 => (if t190 = true then (if x190005 < 96 then (if x190003 = true then (if x190002 = true then (gunnyref31_Kind.j2 k x4 ((Int.tmod (wrap64 (Int.tdiv x190004 2)) 2) == 1) x190000 x190001 x190002 x190003 x190004 x190005 x190006) else (gunnyref31_Kind.j2 k x4 false x190000 x190001 x190002 x190003 x190004 x190005 x190006)) else (gunnyref31_Kind.j2 k x4 true x190000 x190001 x190002 x190003 x190004 x190005 x190006)) else (gunnyref31_Kind.j2 k x4 false x190000 x190001 x190002 x190003 x190004 x190005 x190006)) else (gunnyref31_Kind.j2 k x4 false x190000 x190001 x190002 x190003 x190004 x190005 x190006))) else (gunnyref31_Kind.j2 k x4 false x190000 x190001 x190002 x190003 x190004 x190005 x190006)) else (gunnyref31_Kind.j2 k x4 false x190000 x190001 x190002 x190003 x190004 x190005 x190006))
def gunnyref31_Kind.j2 : Nat → Bool → Bool → Bool → Bool → Bool → Bool → Int → Int → Bool → Option (Int)
  | 0, _, _, _, _, _, _, _, _, _ => none
  | k + 1, x4, x70, x190000, x190001, x190002, x190003, x190004, x190005, x190006 => if x70 = true then (some 2) else (if x190000 = true then (some 4) else (if x190001 = true then ((gunnyref31_May.f x190004).bind fun t191 => (if t191 = true then (if x4 = true then (if x190005 ≤ 512 then (some 3) else (some 4)) else (some 4)) else (some 4))) else (some 4)))
end
def gunnyref31_Kind.f (k : Nat) (a0 : Int) : Option (Int) := (gunnyref31_Read.f k a0).bind fun bt182 => (if a0 = 0 then (some 0) else (if bt182.2.2.2.2.2.2 = true then (some 4) else (if bt182.2.2.1 = true then (gunnyref31_Kind.j0 k false bt182.1 bt182.2.1 bt182.2.2.1 bt182.2.2.2.1 bt182.2.2.2.2.1 bt182.2.2.2.2.2.1 bt182.2.2.2.2.2.2) else (gunnyref31_Kind.j0 k (!bt182.2.2.2.1) bt182.1 bt182.2.1 bt182.2.2.1 bt182.2.2.2.1 bt182.2.2.2.2.1 bt182.2.2.2.2.2.1 bt182.2.2.2.2.2.2))))
theorem gunnyref31_Kind.mono_l : ∀ k, (∀ y0 y1 y2 y3 y4 y5 y6 y7, LeO (gunnyref31_Kind.j0 k y0 y1 y2 y3 y4 y5 y6 y7) (gunnyref31_Kind.j0 (k + 1) y0 y1 y2 y3 y4 y5 y6 y7)) ∧ (∀ y0 y1 y2 y3 y4 y5 y6 y7 y8, LeO (gunnyref31_Kind.j1 k y0 y1 y2 y3 y4 y5 y6 y7 y8) (gunnyref31_Kind.j1 (k + 1) y0 y1 y2 y3 y4 y5 y6 y7 y8)) ∧ (∀ y0 y1 y2 y3 y4 y5 y6 y7 y8, LeO (gunnyref31_Kind.j2 k y0 y1 y2 y3 y4 y5 y6 y7 y8) (gunnyref31_Kind.j2 (k + 1) y0 y1 y2 y3 y4 y5 y6 y7 y8))
  | 0 => ⟨fun _ _ _ _ _ _ _ _ r h => by simp [gunnyref31_Kind.j0] at h, fun _ _ _ _ _ _ _ _ _ r h => by simp [gunnyref31_Kind.j1] at h, fun _ _ _ _ _ _ _ _ _ r h => by simp [gunnyref31_Kind.j2] at h⟩
  | k + 1 => by
    obtain ⟨ih0, ih1, ih2⟩ := gunnyref31_Kind.mono_l k
    refine ⟨?_, ?_, ?_⟩
    · intro y0 y1 y2 y3 y4 y5 y6 y7
      unfold gunnyref31_Kind.j0
      repeat' first
      | (with_reducible exact ih0 _ _ _ _ _ _ _ _)
      | (with_reducible exact ih1 _ _ _ _ _ _ _ _ _)
      | (with_reducible exact ih2 _ _ _ _ _ _ _ _ _)
      | (with_reducible exact gunnyref31_Read.mono _ _)
      | (with_reducible exact LeO.refl _)
      | (with_reducible exact LeO.none _)
      | (with_reducible refine LeO.ite ?_ ?_)
      | (with_reducible refine LeO.bind ?_ (fun _ => ?_))
      | exact ih0 _ _ _ _ _ _ _ _
      | exact ih1 _ _ _ _ _ _ _ _ _
      | exact ih2 _ _ _ _ _ _ _ _ _
      | exact gunnyref31_Read.mono _ _
      | exact LeO.none _
      | refine LeO.ite ?_ ?_
      | refine LeO.bind ?_ (fun _ => ?_)
    · intro y0 y1 y2 y3 y4 y5 y6 y7 y8
      unfold gunnyref31_Kind.j1
      repeat' first
      | (with_reducible exact ih0 _ _ _ _ _ _ _ _)
      | (with_reducible exact ih1 _ _ _ _ _ _ _ _ _)
      | (with_reducible exact ih2 _ _ _ _ _ _ _ _ _)
      | (with_reducible exact gunnyref31_Read.mono _ _)
      | (with_reducible exact LeO.refl _)
      | (with_reducible exact LeO.none _)
      | (with_reducible refine LeO.ite ?_ ?_)
      | (with_reducible refine LeO.bind ?_ (fun _ => ?_))
      | exact ih0 _ _ _ _ _ _ _ _
      | exact ih1 _ _ _ _ _ _ _ _ _
      | exact ih2 _ _ _ _ _ _ _ _ _
      | exact gunnyref31_Read.mono _ _
      | exact LeO.none _
      | refine LeO.ite ?_ ?_
      | refine LeO.bind ?_ (fun _ => ?_)
    · intro y0 y1 y2 y3 y4 y5 y6 y7 y8
      unfold gunnyref31_Kind.j2
      repeat' first
      | (with_reducible exact ih0 _ _ _ _ _ _ _ _)
      | (with_reducible exact ih1 _ _ _ _ _ _ _ _ _)
      | (with_reducible exact ih2 _ _ _ _ _ _ _ _ _)
      | (with_reducible exact gunnyref31_Read.mono _ _)
      | (with_reducible exact LeO.refl _)
      | (with_reducible exact LeO.none _)
      | (with_reducible refine LeO.ite ?_ ?_)
      | (with_reducible refine LeO.bind ?_ (fun _ => ?_))
      | exact ih0 _ _ _ _ _ _ _ _
      | exact ih1 _ _ _ _ _ _ _ _ _
      | exact ih2 _ _ _ _ _ _ _ _ _
      | exact gunnyref31_Read.mono _ _
      | exact LeO.none _
      | refine LeO.ite ?_ ?_
      | refine LeO.bind ?_ (fun _ => ?_)
theorem gunnyref31_Kind.mono : ∀ a0 k, LeO (gunnyref31_Kind.f k a0) (gunnyref31_Kind.f (k + 1) a0) := by
  intro a0 k
  obtain ⟨ih0, ih1, ih2⟩ := gunnyref31_Kind.mono_l k
  unfold gunnyref31_Kind.f
  repeat' first
      | (with_reducible exact ih0 _ _ _ _ _ _ _ _)
      | (with_reducible exact ih1 _ _ _ _ _ _ _ _ _)
      | (with_reducible exact ih2 _ _ _ _ _ _ _ _ _)
      | (with_reducible exact gunnyref31_Read.mono _ _)
      | (with_reducible exact LeO.refl _)
      | (with_reducible exact LeO.none _)
      | (with_reducible refine LeO.ite ?_ ?_)
      | (with_reducible refine LeO.bind ?_ (fun _ => ?_))
      | exact ih0 _ _ _ _ _ _ _ _
      | exact ih1 _ _ _ _ _ _ _ _ _
      | exact ih2 _ _ _ _ _ _ _ _ _
      | exact gunnyref31_Read.mono _ _
      | exact LeO.none _
      | refine LeO.ite ?_ ?_
      | refine LeO.bind ?_ (fun _ => ?_)
set_option maxHeartbeats 8000000 in
set_option maxRecDepth 100000 in
theorem gunnyref31_Kind.calls (k : Nat) (a0 : Int) (r : Int) (w : World) (h : gunnyref31_Kind.f k a0 = some r) :
    Calls Try.prog 16 #[.int .u64 a0] w fun e w' => e = .returned (.int .i64 r) ∧ Below w.heap.size w w' := by
  have hu29 := Try.underlying29
  have HB := Aside0.mk (Below.refl w.heap.size w)
  have H : ((gunnyref31_Read.f k a0).bind fun bt182 => (if a0 = 0 then (some 0) else (if bt182.2.2.2.2.2.2 = true then (some 4) else (if bt182.2.2.1 = true then (gunnyref31_Kind.j0 k false bt182.1 bt182.2.1 bt182.2.2.1 bt182.2.2.2.1 bt182.2.2.2.2.1 bt182.2.2.2.2.2.1 bt182.2.2.2.2.2.2) else (gunnyref31_Kind.j0 k (!bt182.2.2.2.1) bt182.1 bt182.2.1 bt182.2.2.1 bt182.2.2.2.1 bt182.2.2.2.2.1 bt182.2.2.2.2.2.1 bt182.2.2.2.2.2.2))))) = some r := h
  clear h
  replace H := Option.bind_eq_some_iff.mp H
  obtain ⟨⟨t182, t183, t184, t185, t186, t187, t188⟩, A20, H⟩ := H
  replace H : (if a0 = 0 then (some 0) else (if t188 = true then (some 4) else (if t184 = true then (gunnyref31_Kind.j0 k false t182 t183 t184 t185 t186 t187 t188) else (gunnyref31_Kind.j0 k (!t185) t182 t183 t184 t185 t186 t187 t188)))) = some r := H
  have A2 := Aside0.mk A20
  clear A20
  by_cases c3 : a0 = 0
  · rw [if_pos c3] at H
    have c3b0 : (a0 == 0) = true := beq_iff_eq.mpr c3
    have c3b1 : (a0 != 0) = false := bne_eq_false_iff_eq.mpr c3
    clear c3
    obtain rfl := Option.some.inj H
    go_enter Try.func16, Try.ntmps16
    go_wp2_with (first | ((with_reducible refine gate_callee (f := 17) rfl ?_); refine goesL_ (some 6) rfl rfl Try.func17 (by kernel_rfl) rfl #[.int .u64 a0] rfl (by (try simp only [List.map_toArray, List.map_cons, List.map_nil]); first | done | rfl | (simp only [List.length_drop, List.length_take]; rfl)) ?_; (with_reducible refine (gunnyref31_Read.calls k a0 t182 t183 t184 t185 t186 t187 t188 _ A2.out).mono ?_); rintro e w4 ⟨rfl, hb⟩; refine ⟨_, rfl, ?_⟩; have n0_ := Aside0.mk (below_step (by repeat (first | (with_reducible first | exact HB.out | apply below_alloc | apply pw_below_drewN | apply below_drew1) | exact HB.out)) hb); clear HB; have HB := n0_; clear n0_; (try clear hb); (try clear hb2); (try clear hk); (try clear hi)) | ((with_reducible refine gate_dst (N := 3) rfl ?_); refine box_event ?hg (N := 3) ?hd (cs := #[.bool false, .bool false, .bool false, .bool false, .int .i64 0, .int .i64 0, .bool false]) (t := 29) ?hr ?_; (case hd => rfl); (case hg => rfl); (case hr => first | (go_simp; done) | (go_simp; rfl)); intro gb189 hg w5 hbox hb; have n0_ := Aside0.mk (below_step (by repeat (first | (with_reducible first | exact HB.out | apply below_alloc | apply pw_below_drewN | apply below_drew1) | exact HB.out)) hb); have n1_ := Aside0.mk (hbox); have n2_ := Aside0.mk ((by rw [hg]; exact (below_size (by repeat (first | (with_reducible first | exact HB.out | apply below_alloc | apply pw_below_drewN | apply below_drew1) | exact HB.out))) : w.heap.size ≤ gb189)); have n3_ := Aside0.mk ((by rw [hg]; exact (below_size (by repeat (first | (with_reducible first | exact HB.out | apply below_alloc | apply pw_below_drewN | apply below_drew1) | exact HB.out))) : w.heap.size ≤ gb189)); clear HB; have HB := n0_; have BK189 := n1_; have GW189 := n2_; have GE189 := n3_; clear n0_ n1_ n2_ n3_; clear hb hbox hg; have hcz6_0 : w5.cell? ⟨gb189, 0, none⟩ = some (.bool false) := (blk_cell BK189.out 0).trans rfl; have hcz6_1 : w5.cell? ⟨gb189, 1, none⟩ = some (.bool false) := (blk_cell BK189.out 1).trans rfl; have hcz6_2 : w5.cell? ⟨gb189, 2, none⟩ = some (.bool false) := (blk_cell BK189.out 2).trans rfl; have hcz6_3 : w5.cell? ⟨gb189, 3, none⟩ = some (.bool false) := (blk_cell BK189.out 3).trans rfl; have hcz6_4 : w5.cell? ⟨gb189, 4, none⟩ = some (.int .i64 0) := (blk_cell BK189.out 4).trans rfl; have hcz6_5 : w5.cell? ⟨gb189, 5, none⟩ = some (.int .i64 0) := (blk_cell BK189.out 5).trans rfl; have hcz6_6 : w5.cell? ⟨gb189, 6, none⟩ = some (.bool false) := (blk_cell BK189.out 6).trans rfl; have hfz6_0 := blk_frozen BK189.out 0; have hfz6_1 := blk_frozen BK189.out 1; have hfz6_2 := blk_frozen BK189.out 2; have hfz6_3 := blk_frozen BK189.out 3; have hfz6_4 := blk_frozen BK189.out 4; have hfz6_5 := blk_frozen BK189.out 5; have hfz6_6 := blk_frozen BK189.out 6))
    go_ret
    exact ⟨by first | rfl | (simp [errW_none, errW_some] <;> rfl) | (simp [*, errW_none, errW_some] <;> rfl), by repeat (first | (with_reducible first | exact HB.out | apply below_alloc | apply pw_below_drewN | apply below_drew1 | refine below_set ?_ GE189.out) | exact HB.out)⟩
  · rw [if_neg c3] at H
    have c3b0 : (a0 == 0) = false := beq_eq_false_iff_ne.mpr c3
    have c3b1 : (a0 != 0) = true := bne_iff_ne.mpr c3
    by_cases c7 : t188 = true
    · subst c7
      have H1 : (some 4) = some r := by rw [if_pos rfl] at H; exact H
      clear H
      have H := H1
      clear H1
      obtain rfl := Option.some.inj H
      go_enter Try.func16, Try.ntmps16
      go_wp2_with (first | ((with_reducible refine gate_callee (f := 17) rfl ?_); refine goesL_ (some 6) rfl rfl Try.func17 (by kernel_rfl) rfl #[.int .u64 a0] rfl (by (try simp only [List.map_toArray, List.map_cons, List.map_nil]); first | done | rfl | (simp only [List.length_drop, List.length_take]; rfl)) ?_; (with_reducible refine (gunnyref31_Read.calls k a0 t182 t183 t184 t185 t186 t187 true _ A2.out).mono ?_); rintro e w8 ⟨rfl, hb⟩; refine ⟨_, rfl, ?_⟩; have n0_ := Aside0.mk (below_step (by repeat (first | (with_reducible first | exact HB.out | apply below_alloc | apply pw_below_drewN | apply below_drew1) | exact HB.out)) hb); clear HB; have HB := n0_; clear n0_; (try clear hb); (try clear hb2); (try clear hk); (try clear hi)) | ((with_reducible refine gate_dst (N := 3) rfl ?_); refine box_event ?hg (N := 3) ?hd (cs := #[.bool false, .bool false, .bool false, .bool false, .int .i64 0, .int .i64 0, .bool false]) (t := 29) ?hr ?_; (case hd => rfl); (case hg => rfl); (case hr => first | (go_simp; done) | (go_simp; rfl)); intro gb189 hg w9 hbox hb; have n0_ := Aside0.mk (below_step (by repeat (first | (with_reducible first | exact HB.out | apply below_alloc | apply pw_below_drewN | apply below_drew1) | exact HB.out)) hb); have n1_ := Aside0.mk (hbox); have n2_ := Aside0.mk ((by rw [hg]; exact (below_size (by repeat (first | (with_reducible first | exact HB.out | apply below_alloc | apply pw_below_drewN | apply below_drew1) | exact HB.out))) : w.heap.size ≤ gb189)); have n3_ := Aside0.mk ((by rw [hg]; exact (below_size (by repeat (first | (with_reducible first | exact HB.out | apply below_alloc | apply pw_below_drewN | apply below_drew1) | exact HB.out))) : w.heap.size ≤ gb189)); clear HB; have HB := n0_; have BK189 := n1_; have GW189 := n2_; have GE189 := n3_; clear n0_ n1_ n2_ n3_; clear hb hbox hg; have hcz10_0 : w9.cell? ⟨gb189, 0, none⟩ = some (.bool false) := (blk_cell BK189.out 0).trans rfl; have hcz10_1 : w9.cell? ⟨gb189, 1, none⟩ = some (.bool false) := (blk_cell BK189.out 1).trans rfl; have hcz10_2 : w9.cell? ⟨gb189, 2, none⟩ = some (.bool false) := (blk_cell BK189.out 2).trans rfl; have hcz10_3 : w9.cell? ⟨gb189, 3, none⟩ = some (.bool false) := (blk_cell BK189.out 3).trans rfl; have hcz10_4 : w9.cell? ⟨gb189, 4, none⟩ = some (.int .i64 0) := (blk_cell BK189.out 4).trans rfl; have hcz10_5 : w9.cell? ⟨gb189, 5, none⟩ = some (.int .i64 0) := (blk_cell BK189.out 5).trans rfl; have hcz10_6 : w9.cell? ⟨gb189, 6, none⟩ = some (.bool false) := (blk_cell BK189.out 6).trans rfl; have hfz10_0 := blk_frozen BK189.out 0; have hfz10_1 := blk_frozen BK189.out 1; have hfz10_2 := blk_frozen BK189.out 2; have hfz10_3 := blk_frozen BK189.out 3; have hfz10_4 := blk_frozen BK189.out 4; have hfz10_5 := blk_frozen BK189.out 5; have hfz10_6 := blk_frozen BK189.out 6))
      go_ret
      exact ⟨by first | rfl | (simp [errW_none, errW_some] <;> rfl) | (simp [*, errW_none, errW_some] <;> rfl), by repeat (first | (with_reducible first | exact HB.out | apply below_alloc | apply pw_below_drewN | apply below_drew1 | refine below_set ?_ GE189.out) | exact HB.out)⟩
    · replace c7 := Bool.eq_false_iff.mpr c7
      subst c7
      have H1 : (if t184 = true then (gunnyref31_Kind.j0 k false t182 t183 t184 t185 t186 t187 false) else (gunnyref31_Kind.j0 k (!t185) t182 t183 t184 t185 t186 t187 false)) = some r := by rw [if_neg (show ¬ (false = true) by decide)] at H; exact H
      clear H
      have H := H1
      clear H1
      have HC11 := Aside0.mk H
      clear H
      go_enter Try.func16, Try.ntmps16
      go_upto_region 6 with (first | ((with_reducible refine gate_callee (f := 17) rfl ?_); refine goesL_ (some 6) rfl rfl Try.func17 (by kernel_rfl) rfl #[.int .u64 a0] rfl (by (try simp only [List.map_toArray, List.map_cons, List.map_nil]); first | done | rfl | (simp only [List.length_drop, List.length_take]; rfl)) ?_; (with_reducible refine (gunnyref31_Read.calls k a0 t182 t183 t184 t185 t186 t187 false _ A2.out).mono ?_); rintro e w12 ⟨rfl, hb⟩; refine ⟨_, rfl, ?_⟩; have n0_ := Aside0.mk (below_step (by repeat (first | (with_reducible first | exact HB.out | apply below_alloc | apply pw_below_drewN | apply below_drew1) | exact HB.out)) hb); clear HB; have HB := n0_; clear n0_; (try clear hb); (try clear hb2); (try clear hk); (try clear hi)) | ((with_reducible refine gate_dst (N := 3) rfl ?_); refine box_event ?hg (N := 3) ?hd (cs := #[.bool false, .bool false, .bool false, .bool false, .int .i64 0, .int .i64 0, .bool false]) (t := 29) ?hr ?_; (case hd => rfl); (case hg => rfl); (case hr => first | (go_simp; done) | (go_simp; rfl)); intro gb189 hg w13 hbox hb; have n0_ := Aside0.mk (below_step (by repeat (first | (with_reducible first | exact HB.out | apply below_alloc | apply pw_below_drewN | apply below_drew1) | exact HB.out)) hb); have n1_ := Aside0.mk (hbox); have n2_ := Aside0.mk ((by rw [hg]; exact (below_size (by repeat (first | (with_reducible first | exact HB.out | apply below_alloc | apply pw_below_drewN | apply below_drew1) | exact HB.out))) : w.heap.size ≤ gb189)); have n3_ := Aside0.mk ((by rw [hg]; exact (below_size (by repeat (first | (with_reducible first | exact HB.out | apply below_alloc | apply pw_below_drewN | apply below_drew1) | exact HB.out))) : w.heap.size ≤ gb189)); clear HB; have HB := n0_; have BK189 := n1_; have GW189 := n2_; have GE189 := n3_; clear n0_ n1_ n2_ n3_; clear hb hbox hg; have hcz14_0 : w13.cell? ⟨gb189, 0, none⟩ = some (.bool false) := (blk_cell BK189.out 0).trans rfl; have hcz14_1 : w13.cell? ⟨gb189, 1, none⟩ = some (.bool false) := (blk_cell BK189.out 1).trans rfl; have hcz14_2 : w13.cell? ⟨gb189, 2, none⟩ = some (.bool false) := (blk_cell BK189.out 2).trans rfl; have hcz14_3 : w13.cell? ⟨gb189, 3, none⟩ = some (.bool false) := (blk_cell BK189.out 3).trans rfl; have hcz14_4 : w13.cell? ⟨gb189, 4, none⟩ = some (.int .i64 0) := (blk_cell BK189.out 4).trans rfl; have hcz14_5 : w13.cell? ⟨gb189, 5, none⟩ = some (.int .i64 0) := (blk_cell BK189.out 5).trans rfl; have hcz14_6 : w13.cell? ⟨gb189, 6, none⟩ = some (.bool false) := (blk_cell BK189.out 6).trans rfl; have hfz14_0 := blk_frozen BK189.out 0; have hfz14_1 := blk_frozen BK189.out 1; have hfz14_2 := blk_frozen BK189.out 2; have hfz14_3 := blk_frozen BK189.out 3; have hfz14_4 := blk_frozen BK189.out 4; have hfz14_5 := blk_frozen BK189.out 5; have hfz14_6 := blk_frozen BK189.out 6))
      (try simp only [Act.put, List.setIfInBounds_toArray, List.set_cons_zero, List.set_cons_succ])
      go_cut [4] (fun v4 wc => ∃ (kq : Nat) (x4_10 : Bool), v4 = .bool x4_10 ∧ Aside0 (gunnyref31_Kind.j0 kq x4_10 t182 t183 t184 t185 t186 t187 false = some r) ∧ Aside0 (kq ≤ k) ∧ Aside0 (wc.heap[gb189]? = some (.cells #[.bool t182, .bool t183, .bool t184, .bool t185, .int .i64 t186, .int .i64 t187, .bool false] 29 (0, 0))) ∧ Aside0 (Below w.heap.size w wc))
      case first =>
        have H := HC11.out
        clear HC11
        by_cases c15 : t184 = true
        · subst c15
          have H1 : (gunnyref31_Kind.j0 k false t182 t183 true t185 t186 t187 false) = some r := by rw [if_pos rfl] at H; exact H
          clear H
          have H := H1
          clear H1
          have H' := Aside0.mk H
          clear H
          have hcz16_0 : w13.cell? ⟨gb189, 0, none⟩ = some (.bool false) := (blk_cell BK189.out 0).trans rfl
          have hcz16_1 : w13.cell? ⟨gb189, 1, none⟩ = some (.bool false) := (blk_cell BK189.out 1).trans rfl
          have hcz16_2 : w13.cell? ⟨gb189, 2, none⟩ = some (.bool false) := (blk_cell BK189.out 2).trans rfl
          have hcz16_3 : w13.cell? ⟨gb189, 3, none⟩ = some (.bool false) := (blk_cell BK189.out 3).trans rfl
          have hcz16_4 : w13.cell? ⟨gb189, 4, none⟩ = some (.int .i64 0) := (blk_cell BK189.out 4).trans rfl
          have hcz16_5 : w13.cell? ⟨gb189, 5, none⟩ = some (.int .i64 0) := (blk_cell BK189.out 5).trans rfl
          have hcz16_6 : w13.cell? ⟨gb189, 6, none⟩ = some (.bool false) := (blk_cell BK189.out 6).trans rfl
          have hfz16_0 := blk_frozen BK189.out 0
          have hfz16_1 := blk_frozen BK189.out 1
          have hfz16_2 := blk_frozen BK189.out 2
          have hfz16_3 := blk_frozen BK189.out 3
          have hfz16_4 := blk_frozen BK189.out 4
          have hfz16_5 := blk_frozen BK189.out 5
          have hfz16_6 := blk_frozen BK189.out 6
          go_wp2
          go_meet
          case rel => exact ⟨_, (false), (by first | rfl | (simp; done) | (simp [*]; done)), H', ⟨by first | omega | exact Nat.le_refl _⟩, ⟨by (with_reducible repeat (first | refine blk_drewN ?_ _ | refine blk_drew ?_ | refine blk_alloc ?_ _)); refine blk_put (cs := #[.bool t182, .bool t183, .bool true, .bool t185, .int .i64 t186, .int .i64 t187, .bool false]) ?_ 6 _ rfl; (with_reducible repeat (first | refine blk_drewN ?_ _ | refine blk_drew ?_ | refine blk_alloc ?_ _)); refine blk_put (cs := #[.bool t182, .bool t183, .bool true, .bool t185, .int .i64 t186, .int .i64 0, .bool false]) ?_ 5 _ rfl; (with_reducible repeat (first | refine blk_drewN ?_ _ | refine blk_drew ?_ | refine blk_alloc ?_ _)); refine blk_put (cs := #[.bool t182, .bool t183, .bool true, .bool t185, .int .i64 0, .int .i64 0, .bool false]) ?_ 4 _ rfl; (with_reducible repeat (first | refine blk_drewN ?_ _ | refine blk_drew ?_ | refine blk_alloc ?_ _)); refine blk_put (cs := #[.bool t182, .bool t183, .bool true, .bool false, .int .i64 0, .int .i64 0, .bool false]) ?_ 3 _ rfl; (with_reducible repeat (first | refine blk_drewN ?_ _ | refine blk_drew ?_ | refine blk_alloc ?_ _)); refine blk_put (cs := #[.bool t182, .bool t183, .bool false, .bool false, .int .i64 0, .int .i64 0, .bool false]) ?_ 2 _ rfl; (with_reducible repeat (first | refine blk_drewN ?_ _ | refine blk_drew ?_ | refine blk_alloc ?_ _)); refine blk_put (cs := #[.bool t182, .bool false, .bool false, .bool false, .int .i64 0, .int .i64 0, .bool false]) ?_ 1 _ rfl; (with_reducible repeat (first | refine blk_drewN ?_ _ | refine blk_drew ?_ | refine blk_alloc ?_ _)); refine blk_put (cs := #[.bool false, .bool false, .bool false, .bool false, .int .i64 0, .int .i64 0, .bool false]) ?_ 0 _ rfl; (with_reducible repeat (first | refine blk_drewN ?_ _ | refine blk_drew ?_ | refine blk_alloc ?_ _)); exact BK189.out⟩, ⟨by repeat (first | (with_reducible first | exact HB.out | apply below_alloc | apply pw_below_drewN | apply below_drew1 | refine below_set ?_ GE189.out) | exact HB.out)⟩⟩
        · replace c15 := Bool.eq_false_iff.mpr c15
          subst c15
          have H1 : (gunnyref31_Kind.j0 k (!t185) t182 t183 false t185 t186 t187 false) = some r := by rw [if_neg (show ¬ (false = true) by decide)] at H; exact H
          clear H
          have H := H1
          clear H1
          have H' := Aside0.mk H
          clear H
          have hcz17_0 : w13.cell? ⟨gb189, 0, none⟩ = some (.bool false) := (blk_cell BK189.out 0).trans rfl
          have hcz17_1 : w13.cell? ⟨gb189, 1, none⟩ = some (.bool false) := (blk_cell BK189.out 1).trans rfl
          have hcz17_2 : w13.cell? ⟨gb189, 2, none⟩ = some (.bool false) := (blk_cell BK189.out 2).trans rfl
          have hcz17_3 : w13.cell? ⟨gb189, 3, none⟩ = some (.bool false) := (blk_cell BK189.out 3).trans rfl
          have hcz17_4 : w13.cell? ⟨gb189, 4, none⟩ = some (.int .i64 0) := (blk_cell BK189.out 4).trans rfl
          have hcz17_5 : w13.cell? ⟨gb189, 5, none⟩ = some (.int .i64 0) := (blk_cell BK189.out 5).trans rfl
          have hcz17_6 : w13.cell? ⟨gb189, 6, none⟩ = some (.bool false) := (blk_cell BK189.out 6).trans rfl
          have hfz17_0 := blk_frozen BK189.out 0
          have hfz17_1 := blk_frozen BK189.out 1
          have hfz17_2 := blk_frozen BK189.out 2
          have hfz17_3 := blk_frozen BK189.out 3
          have hfz17_4 := blk_frozen BK189.out 4
          have hfz17_5 := blk_frozen BK189.out 5
          have hfz17_6 := blk_frozen BK189.out 6
          go_wp2
          go_meet
          case rel => exact ⟨_, (!t185), (by first | rfl | (simp; done) | (simp [*]; done)), H', ⟨by first | omega | exact Nat.le_refl _⟩, ⟨by (with_reducible repeat (first | refine blk_drewN ?_ _ | refine blk_drew ?_ | refine blk_alloc ?_ _)); refine blk_put (cs := #[.bool t182, .bool t183, .bool false, .bool t185, .int .i64 t186, .int .i64 t187, .bool false]) ?_ 6 _ rfl; (with_reducible repeat (first | refine blk_drewN ?_ _ | refine blk_drew ?_ | refine blk_alloc ?_ _)); refine blk_put (cs := #[.bool t182, .bool t183, .bool false, .bool t185, .int .i64 t186, .int .i64 0, .bool false]) ?_ 5 _ rfl; (with_reducible repeat (first | refine blk_drewN ?_ _ | refine blk_drew ?_ | refine blk_alloc ?_ _)); refine blk_put (cs := #[.bool t182, .bool t183, .bool false, .bool t185, .int .i64 0, .int .i64 0, .bool false]) ?_ 4 _ rfl; (with_reducible repeat (first | refine blk_drewN ?_ _ | refine blk_drew ?_ | refine blk_alloc ?_ _)); refine blk_put (cs := #[.bool t182, .bool t183, .bool false, .bool false, .int .i64 0, .int .i64 0, .bool false]) ?_ 3 _ rfl; (with_reducible repeat (first | refine blk_drewN ?_ _ | refine blk_drew ?_ | refine blk_alloc ?_ _)); refine blk_put (cs := #[.bool t182, .bool t183, .bool false, .bool false, .int .i64 0, .int .i64 0, .bool false]) ?_ 2 _ rfl; (with_reducible repeat (first | refine blk_drewN ?_ _ | refine blk_drew ?_ | refine blk_alloc ?_ _)); refine blk_put (cs := #[.bool t182, .bool false, .bool false, .bool false, .int .i64 0, .int .i64 0, .bool false]) ?_ 1 _ rfl; (with_reducible repeat (first | refine blk_drewN ?_ _ | refine blk_drew ?_ | refine blk_alloc ?_ _)); refine blk_put (cs := #[.bool false, .bool false, .bool false, .bool false, .int .i64 0, .int .i64 0, .bool false]) ?_ 0 _ rfl; (with_reducible repeat (first | refine blk_drewN ?_ _ | refine blk_drew ?_ | refine blk_alloc ?_ _)); exact BK189.out⟩, ⟨by repeat (first | (with_reducible first | exact HB.out | apply below_alloc | apply pw_below_drewN | apply below_drew1 | refine below_set ?_ GE189.out) | exact HB.out)⟩⟩
      case rest =>
        clear HC11
        try clear c1
        try clear p2
        try clear c3
        try clear c3b0
        try clear c3b1
        try clear c7
        try clear c15
        try clear c16
        try clear c17
        try clear hcz10_0
        try clear hcz10_1
        try clear hcz10_2
        try clear hcz10_3
        try clear hcz10_4
        try clear hcz10_5
        try clear hcz10_6
        try clear hcz14_0
        try clear hcz14_1
        try clear hcz14_2
        try clear hcz14_3
        try clear hcz14_4
        try clear hcz14_5
        try clear hcz14_6
        try clear hcz16_0
        try clear hcz16_1
        try clear hcz16_2
        try clear hcz16_3
        try clear hcz16_4
        try clear hcz16_5
        try clear hcz16_6
        try clear hcz17_0
        try clear hcz17_1
        try clear hcz17_2
        try clear hcz17_3
        try clear hcz17_4
        try clear hcz17_5
        try clear hcz17_6
        try clear hcz6_0
        try clear hcz6_1
        try clear hcz6_2
        try clear hcz6_3
        try clear hcz6_4
        try clear hcz6_5
        try clear hcz6_6
        try clear hfz10_0
        try clear hfz10_1
        try clear hfz10_2
        try clear hfz10_3
        try clear hfz10_4
        try clear hfz10_5
        try clear hfz10_6
        try clear hfz14_0
        try clear hfz14_1
        try clear hfz14_2
        try clear hfz14_3
        try clear hfz14_4
        try clear hfz14_5
        try clear hfz14_6
        try clear hfz16_0
        try clear hfz16_1
        try clear hfz16_2
        try clear hfz16_3
        try clear hfz16_4
        try clear hfz16_5
        try clear hfz16_6
        try clear hfz17_0
        try clear hfz17_1
        try clear hfz17_2
        try clear hfz17_3
        try clear hfz17_4
        try clear hfz17_5
        try clear hfz17_6
        try clear hfz6_0
        try clear hfz6_1
        try clear hfz6_2
        try clear hfz6_3
        try clear hfz6_4
        try clear hfz6_5
        try clear hfz6_6
        obtain ⟨kq, x4_10, rfl, HA, HJ10, BK189, HB⟩ := hcut
        cases kq with
        | zero => exact absurd HA.out (by simp [gunnyref31_Kind.j0])
        | succ kj10 =>
          have H := HA.out
          clear HA
          simp only [gunnyref31_Kind.j0] at H
          have HC18 := Aside0.mk H
          clear H
          go_upto_region 7 with (fail)
          go_cut [38] (fun v38 wc => ∃ (kq : Nat) (x38_17 : Bool), v38 = .bool x38_17 ∧ Aside0 (gunnyref31_Kind.j1 kq x4_10 x38_17 t182 t183 t184 t185 t186 t187 false = some r) ∧ Aside0 (kq ≤ kj10) ∧ Aside0 (wc.heap[gb189]? = some (.cells #[.bool t182, .bool t183, .bool t184, .bool t185, .int .i64 t186, .int .i64 t187, .bool false] 29 (0, 0))) ∧ Aside0 (Below w.heap.size w wc))
          case first =>
            have H := HC18.out
            clear HC18
            by_cases c19 : t182 = true
            · subst c19
              have H1 : (if t186 = 0 then (if t183 = true then (gunnyref31_Kind.j1 kj10 x4_10 false true t183 t184 t185 t186 t187 false) else (if x4_10 = true then (gunnyref31_Kind.j1 kj10 x4_10 (decide (t187 < 96)) true t183 t184 t185 t186 t187 false) else (gunnyref31_Kind.j1 kj10 x4_10 false true t183 t184 t185 t186 t187 false))) else (gunnyref31_Kind.j1 kj10 x4_10 false true t183 t184 t185 t186 t187 false)) = some r := by rw [if_pos rfl] at H; exact H
              clear H
              have H := H1
              clear H1
              by_cases c20 : t186 = 0
              · rw [if_pos c20] at H
                have c20b0 : (t186 == 0) = true := beq_iff_eq.mpr c20
                have c20b1 : (t186 != 0) = false := bne_eq_false_iff_eq.mpr c20
                clear c20
                (first | rw [c20b0] | (simp only [i64_w, i32_w]; rw [c20b0]) | skip)
                by_cases c21 : t183 = true
                · subst c21
                  have H1 : (gunnyref31_Kind.j1 kj10 x4_10 false true true t184 t185 t186 t187 false) = some r := by rw [if_pos rfl] at H; exact H
                  clear H
                  have H := H1
                  clear H1
                  have H' := Aside0.mk H
                  clear H
                  have hcz22_0 : wc.cell? ⟨gb189, 0, none⟩ = some (.bool true) := (blk_cell BK189.out 0).trans rfl
                  have hcz22_1 : wc.cell? ⟨gb189, 1, none⟩ = some (.bool true) := (blk_cell BK189.out 1).trans rfl
                  have hcz22_2 : wc.cell? ⟨gb189, 2, none⟩ = some (.bool t184) := (blk_cell BK189.out 2).trans rfl
                  have hcz22_3 : wc.cell? ⟨gb189, 3, none⟩ = some (.bool t185) := (blk_cell BK189.out 3).trans rfl
                  have hcz22_4 : wc.cell? ⟨gb189, 4, none⟩ = some (.int .i64 t186) := (blk_cell BK189.out 4).trans rfl
                  have hcz22_5 : wc.cell? ⟨gb189, 5, none⟩ = some (.int .i64 t187) := (blk_cell BK189.out 5).trans rfl
                  have hcz22_6 : wc.cell? ⟨gb189, 6, none⟩ = some (.bool false) := (blk_cell BK189.out 6).trans rfl
                  have hfz22_0 := blk_frozen BK189.out 0
                  have hfz22_1 := blk_frozen BK189.out 1
                  have hfz22_2 := blk_frozen BK189.out 2
                  have hfz22_3 := blk_frozen BK189.out 3
                  have hfz22_4 := blk_frozen BK189.out 4
                  have hfz22_5 := blk_frozen BK189.out 5
                  have hfz22_6 := blk_frozen BK189.out 6
                  go_wp2
                  go_meet
                  case rel => exact ⟨_, (false), (by first | rfl | (simp; done) | (simp [*]; done)), H', ⟨by have := HJ10.out; first | omega | exact Nat.le_refl _⟩, ⟨by (with_reducible repeat (first | refine blk_drewN ?_ _ | refine blk_drew ?_ | refine blk_alloc ?_ _)); exact BK189.out⟩, ⟨by repeat (first | (with_reducible first | exact HB.out | apply below_alloc | apply pw_below_drewN | apply below_drew1 | refine below_set ?_ GE189.out) | exact HB.out)⟩⟩
                · replace c21 := Bool.eq_false_iff.mpr c21
                  subst c21
                  have H1 : (if x4_10 = true then (gunnyref31_Kind.j1 kj10 x4_10 (decide (t187 < 96)) true false t184 t185 t186 t187 false) else (gunnyref31_Kind.j1 kj10 x4_10 false true false t184 t185 t186 t187 false)) = some r := by rw [if_neg (show ¬ (false = true) by decide)] at H; exact H
                  clear H
                  have H := H1
                  clear H1
                  by_cases c23 : x4_10 = true
                  · subst c23
                    have H1 : (gunnyref31_Kind.j1 kj10 true (decide (t187 < 96)) true false t184 t185 t186 t187 false) = some r := by rw [if_pos rfl] at H; exact H
                    clear H
                    have H := H1
                    clear H1
                    have H' := Aside0.mk H
                    clear H
                    have hcz24_0 : wc.cell? ⟨gb189, 0, none⟩ = some (.bool true) := (blk_cell BK189.out 0).trans rfl
                    have hcz24_1 : wc.cell? ⟨gb189, 1, none⟩ = some (.bool false) := (blk_cell BK189.out 1).trans rfl
                    have hcz24_2 : wc.cell? ⟨gb189, 2, none⟩ = some (.bool t184) := (blk_cell BK189.out 2).trans rfl
                    have hcz24_3 : wc.cell? ⟨gb189, 3, none⟩ = some (.bool t185) := (blk_cell BK189.out 3).trans rfl
                    have hcz24_4 : wc.cell? ⟨gb189, 4, none⟩ = some (.int .i64 t186) := (blk_cell BK189.out 4).trans rfl
                    have hcz24_5 : wc.cell? ⟨gb189, 5, none⟩ = some (.int .i64 t187) := (blk_cell BK189.out 5).trans rfl
                    have hcz24_6 : wc.cell? ⟨gb189, 6, none⟩ = some (.bool false) := (blk_cell BK189.out 6).trans rfl
                    have hfz24_0 := blk_frozen BK189.out 0
                    have hfz24_1 := blk_frozen BK189.out 1
                    have hfz24_2 := blk_frozen BK189.out 2
                    have hfz24_3 := blk_frozen BK189.out 3
                    have hfz24_4 := blk_frozen BK189.out 4
                    have hfz24_5 := blk_frozen BK189.out 5
                    have hfz24_6 := blk_frozen BK189.out 6
                    go_wp2
                    go_meet
                    case rel => exact ⟨_, (decide (t187 < 96)), (by first | rfl | (simp; done) | (simp [*]; done)), H', ⟨by have := HJ10.out; first | omega | exact Nat.le_refl _⟩, ⟨by (with_reducible repeat (first | refine blk_drewN ?_ _ | refine blk_drew ?_ | refine blk_alloc ?_ _)); exact BK189.out⟩, ⟨by repeat (first | (with_reducible first | exact HB.out | apply below_alloc | apply pw_below_drewN | apply below_drew1 | refine below_set ?_ GE189.out) | exact HB.out)⟩⟩
                  · replace c23 := Bool.eq_false_iff.mpr c23
                    subst c23
                    have H1 : (gunnyref31_Kind.j1 kj10 false false true false t184 t185 t186 t187 false) = some r := by rw [if_neg (show ¬ (false = true) by decide)] at H; exact H
                    clear H
                    have H := H1
                    clear H1
                    have H' := Aside0.mk H
                    clear H
                    have hcz25_0 : wc.cell? ⟨gb189, 0, none⟩ = some (.bool true) := (blk_cell BK189.out 0).trans rfl
                    have hcz25_1 : wc.cell? ⟨gb189, 1, none⟩ = some (.bool false) := (blk_cell BK189.out 1).trans rfl
                    have hcz25_2 : wc.cell? ⟨gb189, 2, none⟩ = some (.bool t184) := (blk_cell BK189.out 2).trans rfl
                    have hcz25_3 : wc.cell? ⟨gb189, 3, none⟩ = some (.bool t185) := (blk_cell BK189.out 3).trans rfl
                    have hcz25_4 : wc.cell? ⟨gb189, 4, none⟩ = some (.int .i64 t186) := (blk_cell BK189.out 4).trans rfl
                    have hcz25_5 : wc.cell? ⟨gb189, 5, none⟩ = some (.int .i64 t187) := (blk_cell BK189.out 5).trans rfl
                    have hcz25_6 : wc.cell? ⟨gb189, 6, none⟩ = some (.bool false) := (blk_cell BK189.out 6).trans rfl
                    have hfz25_0 := blk_frozen BK189.out 0
                    have hfz25_1 := blk_frozen BK189.out 1
                    have hfz25_2 := blk_frozen BK189.out 2
                    have hfz25_3 := blk_frozen BK189.out 3
                    have hfz25_4 := blk_frozen BK189.out 4
                    have hfz25_5 := blk_frozen BK189.out 5
                    have hfz25_6 := blk_frozen BK189.out 6
                    go_wp2
                    go_meet
                    case rel => exact ⟨_, (false), (by first | rfl | (simp; done) | (simp [*]; done)), H', ⟨by have := HJ10.out; first | omega | exact Nat.le_refl _⟩, ⟨by (with_reducible repeat (first | refine blk_drewN ?_ _ | refine blk_drew ?_ | refine blk_alloc ?_ _)); exact BK189.out⟩, ⟨by repeat (first | (with_reducible first | exact HB.out | apply below_alloc | apply pw_below_drewN | apply below_drew1 | refine below_set ?_ GE189.out) | exact HB.out)⟩⟩
              · rw [if_neg c20] at H
                have c20b0 : (t186 == 0) = false := beq_eq_false_iff_ne.mpr c20
                have c20b1 : (t186 != 0) = true := bne_iff_ne.mpr c20
                (first | rw [c20b0] | (simp only [i64_w, i32_w]; rw [c20b0]) | skip)
                have H' := Aside0.mk H
                clear H
                have hcz26_0 : wc.cell? ⟨gb189, 0, none⟩ = some (.bool true) := (blk_cell BK189.out 0).trans rfl
                have hcz26_1 : wc.cell? ⟨gb189, 1, none⟩ = some (.bool t183) := (blk_cell BK189.out 1).trans rfl
                have hcz26_2 : wc.cell? ⟨gb189, 2, none⟩ = some (.bool t184) := (blk_cell BK189.out 2).trans rfl
                have hcz26_3 : wc.cell? ⟨gb189, 3, none⟩ = some (.bool t185) := (blk_cell BK189.out 3).trans rfl
                have hcz26_4 : wc.cell? ⟨gb189, 4, none⟩ = some (.int .i64 t186) := (blk_cell BK189.out 4).trans rfl
                have hcz26_5 : wc.cell? ⟨gb189, 5, none⟩ = some (.int .i64 t187) := (blk_cell BK189.out 5).trans rfl
                have hcz26_6 : wc.cell? ⟨gb189, 6, none⟩ = some (.bool false) := (blk_cell BK189.out 6).trans rfl
                have hfz26_0 := blk_frozen BK189.out 0
                have hfz26_1 := blk_frozen BK189.out 1
                have hfz26_2 := blk_frozen BK189.out 2
                have hfz26_3 := blk_frozen BK189.out 3
                have hfz26_4 := blk_frozen BK189.out 4
                have hfz26_5 := blk_frozen BK189.out 5
                have hfz26_6 := blk_frozen BK189.out 6
                go_wp2
                go_meet
                case rel => exact ⟨_, (false), (by first | rfl | (simp; done) | (simp [*]; done)), H', ⟨by have := HJ10.out; first | omega | exact Nat.le_refl _⟩, ⟨by (with_reducible repeat (first | refine blk_drewN ?_ _ | refine blk_drew ?_ | refine blk_alloc ?_ _)); exact BK189.out⟩, ⟨by repeat (first | (with_reducible first | exact HB.out | apply below_alloc | apply pw_below_drewN | apply below_drew1 | refine below_set ?_ GE189.out) | exact HB.out)⟩⟩
            · replace c19 := Bool.eq_false_iff.mpr c19
              subst c19
              have H1 : (gunnyref31_Kind.j1 kj10 x4_10 false false t183 t184 t185 t186 t187 false) = some r := by rw [if_neg (show ¬ (false = true) by decide)] at H; exact H
              clear H
              have H := H1
              clear H1
              have H' := Aside0.mk H
              clear H
              have hcz27_0 : wc.cell? ⟨gb189, 0, none⟩ = some (.bool false) := (blk_cell BK189.out 0).trans rfl
              have hcz27_1 : wc.cell? ⟨gb189, 1, none⟩ = some (.bool t183) := (blk_cell BK189.out 1).trans rfl
              have hcz27_2 : wc.cell? ⟨gb189, 2, none⟩ = some (.bool t184) := (blk_cell BK189.out 2).trans rfl
              have hcz27_3 : wc.cell? ⟨gb189, 3, none⟩ = some (.bool t185) := (blk_cell BK189.out 3).trans rfl
              have hcz27_4 : wc.cell? ⟨gb189, 4, none⟩ = some (.int .i64 t186) := (blk_cell BK189.out 4).trans rfl
              have hcz27_5 : wc.cell? ⟨gb189, 5, none⟩ = some (.int .i64 t187) := (blk_cell BK189.out 5).trans rfl
              have hcz27_6 : wc.cell? ⟨gb189, 6, none⟩ = some (.bool false) := (blk_cell BK189.out 6).trans rfl
              have hfz27_0 := blk_frozen BK189.out 0
              have hfz27_1 := blk_frozen BK189.out 1
              have hfz27_2 := blk_frozen BK189.out 2
              have hfz27_3 := blk_frozen BK189.out 3
              have hfz27_4 := blk_frozen BK189.out 4
              have hfz27_5 := blk_frozen BK189.out 5
              have hfz27_6 := blk_frozen BK189.out 6
              go_wp2
              go_meet
              case rel => exact ⟨_, (false), (by first | rfl | (simp; done) | (simp [*]; done)), H', ⟨by have := HJ10.out; first | omega | exact Nat.le_refl _⟩, ⟨by (with_reducible repeat (first | refine blk_drewN ?_ _ | refine blk_drew ?_ | refine blk_alloc ?_ _)); exact BK189.out⟩, ⟨by repeat (first | (with_reducible first | exact HB.out | apply below_alloc | apply pw_below_drewN | apply below_drew1 | refine below_set ?_ GE189.out) | exact HB.out)⟩⟩
          case rest =>
            clear HC18
            try clear c1
            try clear c2
            try clear p2
            try clear c3
            try clear c3b0
            try clear c3b1
            try clear c7
            try clear c15
            try clear c16
            try clear c17
            try clear c19
            try clear c20
            try clear c20b0
            try clear c20b1
            try clear c21
            try clear c23
            try clear hcz10_0
            try clear hcz10_1
            try clear hcz10_2
            try clear hcz10_3
            try clear hcz10_4
            try clear hcz10_5
            try clear hcz10_6
            try clear hcz14_0
            try clear hcz14_1
            try clear hcz14_2
            try clear hcz14_3
            try clear hcz14_4
            try clear hcz14_5
            try clear hcz14_6
            try clear hcz16_0
            try clear hcz16_1
            try clear hcz16_2
            try clear hcz16_3
            try clear hcz16_4
            try clear hcz16_5
            try clear hcz16_6
            try clear hcz17_0
            try clear hcz17_1
            try clear hcz17_2
            try clear hcz17_3
            try clear hcz17_4
            try clear hcz17_5
            try clear hcz17_6
            try clear hcz22_0
            try clear hcz22_1
            try clear hcz22_2
            try clear hcz22_3
            try clear hcz22_4
            try clear hcz22_5
            try clear hcz22_6
            try clear hcz24_0
            try clear hcz24_1
            try clear hcz24_2
            try clear hcz24_3
            try clear hcz24_4
            try clear hcz24_5
            try clear hcz24_6
            try clear hcz25_0
            try clear hcz25_1
            try clear hcz25_2
            try clear hcz25_3
            try clear hcz25_4
            try clear hcz25_5
            try clear hcz25_6
            try clear hcz26_0
            try clear hcz26_1
            try clear hcz26_2
            try clear hcz26_3
            try clear hcz26_4
            try clear hcz26_5
            try clear hcz26_6
            try clear hcz27_0
            try clear hcz27_1
            try clear hcz27_2
            try clear hcz27_3
            try clear hcz27_4
            try clear hcz27_5
            try clear hcz27_6
            try clear hcz6_0
            try clear hcz6_1
            try clear hcz6_2
            try clear hcz6_3
            try clear hcz6_4
            try clear hcz6_5
            try clear hcz6_6
            try clear hfz10_0
            try clear hfz10_1
            try clear hfz10_2
            try clear hfz10_3
            try clear hfz10_4
            try clear hfz10_5
            try clear hfz10_6
            try clear hfz14_0
            try clear hfz14_1
            try clear hfz14_2
            try clear hfz14_3
            try clear hfz14_4
            try clear hfz14_5
            try clear hfz14_6
            try clear hfz16_0
            try clear hfz16_1
            try clear hfz16_2
            try clear hfz16_3
            try clear hfz16_4
            try clear hfz16_5
            try clear hfz16_6
            try clear hfz17_0
            try clear hfz17_1
            try clear hfz17_2
            try clear hfz17_3
            try clear hfz17_4
            try clear hfz17_5
            try clear hfz17_6
            try clear hfz22_0
            try clear hfz22_1
            try clear hfz22_2
            try clear hfz22_3
            try clear hfz22_4
            try clear hfz22_5
            try clear hfz22_6
            try clear hfz24_0
            try clear hfz24_1
            try clear hfz24_2
            try clear hfz24_3
            try clear hfz24_4
            try clear hfz24_5
            try clear hfz24_6
            try clear hfz25_0
            try clear hfz25_1
            try clear hfz25_2
            try clear hfz25_3
            try clear hfz25_4
            try clear hfz25_5
            try clear hfz25_6
            try clear hfz26_0
            try clear hfz26_1
            try clear hfz26_2
            try clear hfz26_3
            try clear hfz26_4
            try clear hfz26_5
            try clear hfz26_6
            try clear hfz27_0
            try clear hfz27_1
            try clear hfz27_2
            try clear hfz27_3
            try clear hfz27_4
            try clear hfz27_5
            try clear hfz27_6
            try clear hfz6_0
            try clear hfz6_1
            try clear hfz6_2
            try clear hfz6_3
            try clear hfz6_4
            try clear hfz6_5
            try clear hfz6_6
            try clear p2
            obtain ⟨kq, x38_17, rfl, HA, HJ17, BK189, HB⟩ := hcut
            cases kq with
            | zero => exact absurd HA.out (by simp [gunnyref31_Kind.j1])
            | succ kj17 =>
              have H := HA.out
              clear HA
              simp only [gunnyref31_Kind.j1] at H
              by_cases c28 : x38_17 = true
              · subst c28
                have H1 : (some 1) = some r := by rw [if_pos rfl] at H; exact H
                clear H
                have H := H1
                clear H1
                obtain rfl := Option.some.inj H
                go_wp2
                go_ret
                exact ⟨by first | rfl | (simp [errW_none, errW_some] <;> rfl) | (simp [*, errW_none, errW_some] <;> rfl), by repeat (first | (with_reducible first | exact HB.out | apply below_alloc | apply pw_below_drewN | apply below_drew1 | refine below_set ?_ GE189.out) | exact HB.out)⟩
              · replace c28 := Bool.eq_false_iff.mpr c28
                subst c28
                have H1 : (if t182 = true then (if t183 = true then ((gunnyref31_May.f t186).bind fun t190 => (if t190 = true then (if t187 < 96 then (if t185 = true then (if t184 = true then (gunnyref31_Kind.j2 kj17 x4_10 ((Int.tmod (wrap64 (Int.tdiv t186 2)) 2) == 1) t182 t183 t184 t185 t186 t187 false) else (gunnyref31_Kind.j2 kj17 x4_10 false t182 t183 t184 t185 t186 t187 false)) else (gunnyref31_Kind.j2 kj17 x4_10 true t182 t183 t184 t185 t186 t187 false)) else (gunnyref31_Kind.j2 kj17 x4_10 false t182 t183 t184 t185 t186 t187 false)) else (gunnyref31_Kind.j2 kj17 x4_10 false t182 t183 t184 t185 t186 t187 false))) else (gunnyref31_Kind.j2 kj17 x4_10 false t182 t183 t184 t185 t186 t187 false)) else (gunnyref31_Kind.j2 kj17 x4_10 false t182 t183 t184 t185 t186 t187 false)) = some r := by rw [if_neg (show ¬ (false = true) by decide)] at H; exact H
                clear H
                have H := H1
                clear H1
                have HC29 := Aside0.mk H
                clear H
                go_upto_region 9 with (fail)
                go_cut [70] (fun v70 wc => ∃ (kq : Nat) (x70_28 : Bool), v70 = .bool x70_28 ∧ Aside0 (gunnyref31_Kind.j2 kq x4_10 x70_28 t182 t183 t184 t185 t186 t187 false = some r) ∧ Aside0 (kq ≤ kj17) ∧ Aside0 (wc.heap[gb189]? = some (.cells #[.bool t182, .bool t183, .bool t184, .bool t185, .int .i64 t186, .int .i64 t187, .bool false] 29 (0, 0))) ∧ Aside0 (Below w.heap.size w wc))
                case first =>
                  have H := HC29.out
                  clear HC29
                  by_cases c30 : t182 = true
                  · subst c30
                    have H1 : (if t183 = true then ((gunnyref31_May.f t186).bind fun t190 => (if t190 = true then (if t187 < 96 then (if t185 = true then (if t184 = true then (gunnyref31_Kind.j2 kj17 x4_10 ((Int.tmod (wrap64 (Int.tdiv t186 2)) 2) == 1) true t183 t184 t185 t186 t187 false) else (gunnyref31_Kind.j2 kj17 x4_10 false true t183 t184 t185 t186 t187 false)) else (gunnyref31_Kind.j2 kj17 x4_10 true true t183 t184 t185 t186 t187 false)) else (gunnyref31_Kind.j2 kj17 x4_10 false true t183 t184 t185 t186 t187 false)) else (gunnyref31_Kind.j2 kj17 x4_10 false true t183 t184 t185 t186 t187 false))) else (gunnyref31_Kind.j2 kj17 x4_10 false true t183 t184 t185 t186 t187 false)) = some r := by rw [if_pos rfl] at H; exact H
                    clear H
                    have H := H1
                    clear H1
                    by_cases c31 : t183 = true
                    · subst c31
                      have H1 : ((gunnyref31_May.f t186).bind fun t190 => (if t190 = true then (if t187 < 96 then (if t185 = true then (if t184 = true then (gunnyref31_Kind.j2 kj17 x4_10 ((Int.tmod (wrap64 (Int.tdiv t186 2)) 2) == 1) true true t184 t185 t186 t187 false) else (gunnyref31_Kind.j2 kj17 x4_10 false true true t184 t185 t186 t187 false)) else (gunnyref31_Kind.j2 kj17 x4_10 true true true t184 t185 t186 t187 false)) else (gunnyref31_Kind.j2 kj17 x4_10 false true true t184 t185 t186 t187 false)) else (gunnyref31_Kind.j2 kj17 x4_10 false true true t184 t185 t186 t187 false))) = some r := by rw [if_pos rfl] at H; exact H
                      clear H
                      have H := H1
                      clear H1
                      replace H := Option.bind_eq_some_iff.mp H
                      obtain ⟨t190, A320, H⟩ := H
                      replace H : (if t190 = true then (if t187 < 96 then (if t185 = true then (if t184 = true then (gunnyref31_Kind.j2 kj17 x4_10 ((Int.tmod (wrap64 (Int.tdiv t186 2)) 2) == 1) true true t184 t185 t186 t187 false) else (gunnyref31_Kind.j2 kj17 x4_10 false true true t184 t185 t186 t187 false)) else (gunnyref31_Kind.j2 kj17 x4_10 true true true t184 t185 t186 t187 false)) else (gunnyref31_Kind.j2 kj17 x4_10 false true true t184 t185 t186 t187 false)) else (gunnyref31_Kind.j2 kj17 x4_10 false true true t184 t185 t186 t187 false)) = some r := H
                      have A32 := Aside0.mk A320
                      clear A320
                      by_cases c33 : t190 = true
                      · subst c33
                        have H1 : (if t187 < 96 then (if t185 = true then (if t184 = true then (gunnyref31_Kind.j2 kj17 x4_10 ((Int.tmod (wrap64 (Int.tdiv t186 2)) 2) == 1) true true t184 t185 t186 t187 false) else (gunnyref31_Kind.j2 kj17 x4_10 false true true t184 t185 t186 t187 false)) else (gunnyref31_Kind.j2 kj17 x4_10 true true true t184 t185 t186 t187 false)) else (gunnyref31_Kind.j2 kj17 x4_10 false true true t184 t185 t186 t187 false)) = some r := by rw [if_pos rfl] at H; exact H
                        clear H
                        have H := H1
                        clear H1
                        by_cases c34 : t187 < 96
                        · rw [if_pos c34] at H
                          have c34b0 : decide (t187 < 96) = true := decide_eq_true c34
                          clear c34
                          (first | rw [c34b0] | (simp only [i64_w, i32_w]; rw [c34b0]) | skip)
                          by_cases c35 : t185 = true
                          · subst c35
                            have H1 : (if t184 = true then (gunnyref31_Kind.j2 kj17 x4_10 ((Int.tmod (wrap64 (Int.tdiv t186 2)) 2) == 1) true true t184 true t186 t187 false) else (gunnyref31_Kind.j2 kj17 x4_10 false true true t184 true t186 t187 false)) = some r := by rw [if_pos rfl] at H; exact H
                            clear H
                            have H := H1
                            clear H1
                            by_cases c36 : t184 = true
                            · subst c36
                              have H1 : (gunnyref31_Kind.j2 kj17 x4_10 ((Int.tmod (wrap64 (Int.tdiv t186 2)) 2) == 1) true true true true t186 t187 false) = some r := by rw [if_pos rfl] at H; exact H
                              clear H
                              have H := H1
                              clear H1
                              have H' := Aside0.mk H
                              clear H
                              have hcz37_0 : wc.cell? ⟨gb189, 0, none⟩ = some (.bool true) := (blk_cell BK189.out 0).trans rfl
                              have hcz37_1 : wc.cell? ⟨gb189, 1, none⟩ = some (.bool true) := (blk_cell BK189.out 1).trans rfl
                              have hcz37_2 : wc.cell? ⟨gb189, 2, none⟩ = some (.bool true) := (blk_cell BK189.out 2).trans rfl
                              have hcz37_3 : wc.cell? ⟨gb189, 3, none⟩ = some (.bool true) := (blk_cell BK189.out 3).trans rfl
                              have hcz37_4 : wc.cell? ⟨gb189, 4, none⟩ = some (.int .i64 t186) := (blk_cell BK189.out 4).trans rfl
                              have hcz37_5 : wc.cell? ⟨gb189, 5, none⟩ = some (.int .i64 t187) := (blk_cell BK189.out 5).trans rfl
                              have hcz37_6 : wc.cell? ⟨gb189, 6, none⟩ = some (.bool false) := (blk_cell BK189.out 6).trans rfl
                              have hfz37_0 := blk_frozen BK189.out 0
                              have hfz37_1 := blk_frozen BK189.out 1
                              have hfz37_2 := blk_frozen BK189.out 2
                              have hfz37_3 := blk_frozen BK189.out 3
                              have hfz37_4 := blk_frozen BK189.out 4
                              have hfz37_5 := blk_frozen BK189.out 5
                              have hfz37_6 := blk_frozen BK189.out 6
                              go_wp2_with (first | (go_at_call 10; (with_reducible refine (gunnyref31_May.calls t186 true _ A32.out).mono ?_); rintro e w' ⟨rfl, ⟨nd, rfl⟩⟩))
                              go_meet
                              case rel => exact ⟨_, (((Int.tmod (wrap64 (Int.tdiv t186 2)) 2) == 1)), (by first | rfl | (simp; done) | (simp [*]; done)), H', ⟨by have := HJ10.out; have := HJ17.out; first | omega | exact Nat.le_refl _⟩, ⟨by (with_reducible repeat (first | refine blk_drewN ?_ _ | refine blk_drew ?_ | refine blk_alloc ?_ _)); exact BK189.out⟩, ⟨by repeat (first | (with_reducible first | exact HB.out | apply below_alloc | apply pw_below_drewN | apply below_drew1 | refine below_set ?_ GE189.out) | exact HB.out)⟩⟩
                            · replace c36 := Bool.eq_false_iff.mpr c36
                              subst c36
                              have H1 : (gunnyref31_Kind.j2 kj17 x4_10 false true true false true t186 t187 false) = some r := by rw [if_neg (show ¬ (false = true) by decide)] at H; exact H
                              clear H
                              have H := H1
                              clear H1
                              have H' := Aside0.mk H
                              clear H
                              have hcz38_0 : wc.cell? ⟨gb189, 0, none⟩ = some (.bool true) := (blk_cell BK189.out 0).trans rfl
                              have hcz38_1 : wc.cell? ⟨gb189, 1, none⟩ = some (.bool true) := (blk_cell BK189.out 1).trans rfl
                              have hcz38_2 : wc.cell? ⟨gb189, 2, none⟩ = some (.bool false) := (blk_cell BK189.out 2).trans rfl
                              have hcz38_3 : wc.cell? ⟨gb189, 3, none⟩ = some (.bool true) := (blk_cell BK189.out 3).trans rfl
                              have hcz38_4 : wc.cell? ⟨gb189, 4, none⟩ = some (.int .i64 t186) := (blk_cell BK189.out 4).trans rfl
                              have hcz38_5 : wc.cell? ⟨gb189, 5, none⟩ = some (.int .i64 t187) := (blk_cell BK189.out 5).trans rfl
                              have hcz38_6 : wc.cell? ⟨gb189, 6, none⟩ = some (.bool false) := (blk_cell BK189.out 6).trans rfl
                              have hfz38_0 := blk_frozen BK189.out 0
                              have hfz38_1 := blk_frozen BK189.out 1
                              have hfz38_2 := blk_frozen BK189.out 2
                              have hfz38_3 := blk_frozen BK189.out 3
                              have hfz38_4 := blk_frozen BK189.out 4
                              have hfz38_5 := blk_frozen BK189.out 5
                              have hfz38_6 := blk_frozen BK189.out 6
                              go_wp2_with (first | (go_at_call 10; (with_reducible refine (gunnyref31_May.calls t186 true _ A32.out).mono ?_); rintro e w' ⟨rfl, ⟨nd, rfl⟩⟩))
                              go_meet
                              case rel => exact ⟨_, (false), (by first | rfl | (simp; done) | (simp [*]; done)), H', ⟨by have := HJ10.out; have := HJ17.out; first | omega | exact Nat.le_refl _⟩, ⟨by (with_reducible repeat (first | refine blk_drewN ?_ _ | refine blk_drew ?_ | refine blk_alloc ?_ _)); exact BK189.out⟩, ⟨by repeat (first | (with_reducible first | exact HB.out | apply below_alloc | apply pw_below_drewN | apply below_drew1 | refine below_set ?_ GE189.out) | exact HB.out)⟩⟩
                          · replace c35 := Bool.eq_false_iff.mpr c35
                            subst c35
                            have H1 : (gunnyref31_Kind.j2 kj17 x4_10 true true true t184 false t186 t187 false) = some r := by rw [if_neg (show ¬ (false = true) by decide)] at H; exact H
                            clear H
                            have H := H1
                            clear H1
                            have H' := Aside0.mk H
                            clear H
                            have hcz39_0 : wc.cell? ⟨gb189, 0, none⟩ = some (.bool true) := (blk_cell BK189.out 0).trans rfl
                            have hcz39_1 : wc.cell? ⟨gb189, 1, none⟩ = some (.bool true) := (blk_cell BK189.out 1).trans rfl
                            have hcz39_2 : wc.cell? ⟨gb189, 2, none⟩ = some (.bool t184) := (blk_cell BK189.out 2).trans rfl
                            have hcz39_3 : wc.cell? ⟨gb189, 3, none⟩ = some (.bool false) := (blk_cell BK189.out 3).trans rfl
                            have hcz39_4 : wc.cell? ⟨gb189, 4, none⟩ = some (.int .i64 t186) := (blk_cell BK189.out 4).trans rfl
                            have hcz39_5 : wc.cell? ⟨gb189, 5, none⟩ = some (.int .i64 t187) := (blk_cell BK189.out 5).trans rfl
                            have hcz39_6 : wc.cell? ⟨gb189, 6, none⟩ = some (.bool false) := (blk_cell BK189.out 6).trans rfl
                            have hfz39_0 := blk_frozen BK189.out 0
                            have hfz39_1 := blk_frozen BK189.out 1
                            have hfz39_2 := blk_frozen BK189.out 2
                            have hfz39_3 := blk_frozen BK189.out 3
                            have hfz39_4 := blk_frozen BK189.out 4
                            have hfz39_5 := blk_frozen BK189.out 5
                            have hfz39_6 := blk_frozen BK189.out 6
                            go_wp2_with (first | (go_at_call 10; (with_reducible refine (gunnyref31_May.calls t186 true _ A32.out).mono ?_); rintro e w' ⟨rfl, ⟨nd, rfl⟩⟩))
                            go_meet
                            case rel => exact ⟨_, (true), (by first | rfl | (simp; done) | (simp [*]; done)), H', ⟨by have := HJ10.out; have := HJ17.out; first | omega | exact Nat.le_refl _⟩, ⟨by (with_reducible repeat (first | refine blk_drewN ?_ _ | refine blk_drew ?_ | refine blk_alloc ?_ _)); exact BK189.out⟩, ⟨by repeat (first | (with_reducible first | exact HB.out | apply below_alloc | apply pw_below_drewN | apply below_drew1 | refine below_set ?_ GE189.out) | exact HB.out)⟩⟩
                        · rw [if_neg c34] at H
                          have c34b0 : decide (t187 < 96) = false := decide_eq_false c34
                          clear c34
                          (first | rw [c34b0] | (simp only [i64_w, i32_w]; rw [c34b0]) | skip)
                          have H' := Aside0.mk H
                          clear H
                          have hcz40_0 : wc.cell? ⟨gb189, 0, none⟩ = some (.bool true) := (blk_cell BK189.out 0).trans rfl
                          have hcz40_1 : wc.cell? ⟨gb189, 1, none⟩ = some (.bool true) := (blk_cell BK189.out 1).trans rfl
                          have hcz40_2 : wc.cell? ⟨gb189, 2, none⟩ = some (.bool t184) := (blk_cell BK189.out 2).trans rfl
                          have hcz40_3 : wc.cell? ⟨gb189, 3, none⟩ = some (.bool t185) := (blk_cell BK189.out 3).trans rfl
                          have hcz40_4 : wc.cell? ⟨gb189, 4, none⟩ = some (.int .i64 t186) := (blk_cell BK189.out 4).trans rfl
                          have hcz40_5 : wc.cell? ⟨gb189, 5, none⟩ = some (.int .i64 t187) := (blk_cell BK189.out 5).trans rfl
                          have hcz40_6 : wc.cell? ⟨gb189, 6, none⟩ = some (.bool false) := (blk_cell BK189.out 6).trans rfl
                          have hfz40_0 := blk_frozen BK189.out 0
                          have hfz40_1 := blk_frozen BK189.out 1
                          have hfz40_2 := blk_frozen BK189.out 2
                          have hfz40_3 := blk_frozen BK189.out 3
                          have hfz40_4 := blk_frozen BK189.out 4
                          have hfz40_5 := blk_frozen BK189.out 5
                          have hfz40_6 := blk_frozen BK189.out 6
                          go_wp2_with (first | (go_at_call 10; (with_reducible refine (gunnyref31_May.calls t186 true _ A32.out).mono ?_); rintro e w' ⟨rfl, ⟨nd, rfl⟩⟩))
                          go_meet
                          case rel => exact ⟨_, (false), (by first | rfl | (simp; done) | (simp [*]; done)), H', ⟨by have := HJ10.out; have := HJ17.out; first | omega | exact Nat.le_refl _⟩, ⟨by (with_reducible repeat (first | refine blk_drewN ?_ _ | refine blk_drew ?_ | refine blk_alloc ?_ _)); exact BK189.out⟩, ⟨by repeat (first | (with_reducible first | exact HB.out | apply below_alloc | apply pw_below_drewN | apply below_drew1 | refine below_set ?_ GE189.out) | exact HB.out)⟩⟩
                      · replace c33 := Bool.eq_false_iff.mpr c33
                        subst c33
                        have H1 : (gunnyref31_Kind.j2 kj17 x4_10 false true true t184 t185 t186 t187 false) = some r := by rw [if_neg (show ¬ (false = true) by decide)] at H; exact H
                        clear H
                        have H := H1
                        clear H1
                        have H' := Aside0.mk H
                        clear H
                        have hcz41_0 : wc.cell? ⟨gb189, 0, none⟩ = some (.bool true) := (blk_cell BK189.out 0).trans rfl
                        have hcz41_1 : wc.cell? ⟨gb189, 1, none⟩ = some (.bool true) := (blk_cell BK189.out 1).trans rfl
                        have hcz41_2 : wc.cell? ⟨gb189, 2, none⟩ = some (.bool t184) := (blk_cell BK189.out 2).trans rfl
                        have hcz41_3 : wc.cell? ⟨gb189, 3, none⟩ = some (.bool t185) := (blk_cell BK189.out 3).trans rfl
                        have hcz41_4 : wc.cell? ⟨gb189, 4, none⟩ = some (.int .i64 t186) := (blk_cell BK189.out 4).trans rfl
                        have hcz41_5 : wc.cell? ⟨gb189, 5, none⟩ = some (.int .i64 t187) := (blk_cell BK189.out 5).trans rfl
                        have hcz41_6 : wc.cell? ⟨gb189, 6, none⟩ = some (.bool false) := (blk_cell BK189.out 6).trans rfl
                        have hfz41_0 := blk_frozen BK189.out 0
                        have hfz41_1 := blk_frozen BK189.out 1
                        have hfz41_2 := blk_frozen BK189.out 2
                        have hfz41_3 := blk_frozen BK189.out 3
                        have hfz41_4 := blk_frozen BK189.out 4
                        have hfz41_5 := blk_frozen BK189.out 5
                        have hfz41_6 := blk_frozen BK189.out 6
                        go_wp2_with (first | (go_at_call 10; (with_reducible refine (gunnyref31_May.calls t186 false _ A32.out).mono ?_); rintro e w' ⟨rfl, ⟨nd, rfl⟩⟩))
                        go_meet
                        case rel => exact ⟨_, (false), (by first | rfl | (simp; done) | (simp [*]; done)), H', ⟨by have := HJ10.out; have := HJ17.out; first | omega | exact Nat.le_refl _⟩, ⟨by (with_reducible repeat (first | refine blk_drewN ?_ _ | refine blk_drew ?_ | refine blk_alloc ?_ _)); exact BK189.out⟩, ⟨by repeat (first | (with_reducible first | exact HB.out | apply below_alloc | apply pw_below_drewN | apply below_drew1 | refine below_set ?_ GE189.out) | exact HB.out)⟩⟩
                    · replace c31 := Bool.eq_false_iff.mpr c31
                      subst c31
                      have H1 : (gunnyref31_Kind.j2 kj17 x4_10 false true false t184 t185 t186 t187 false) = some r := by rw [if_neg (show ¬ (false = true) by decide)] at H; exact H
                      clear H
                      have H := H1
                      clear H1
                      have H' := Aside0.mk H
                      clear H
                      have hcz42_0 : wc.cell? ⟨gb189, 0, none⟩ = some (.bool true) := (blk_cell BK189.out 0).trans rfl
                      have hcz42_1 : wc.cell? ⟨gb189, 1, none⟩ = some (.bool false) := (blk_cell BK189.out 1).trans rfl
                      have hcz42_2 : wc.cell? ⟨gb189, 2, none⟩ = some (.bool t184) := (blk_cell BK189.out 2).trans rfl
                      have hcz42_3 : wc.cell? ⟨gb189, 3, none⟩ = some (.bool t185) := (blk_cell BK189.out 3).trans rfl
                      have hcz42_4 : wc.cell? ⟨gb189, 4, none⟩ = some (.int .i64 t186) := (blk_cell BK189.out 4).trans rfl
                      have hcz42_5 : wc.cell? ⟨gb189, 5, none⟩ = some (.int .i64 t187) := (blk_cell BK189.out 5).trans rfl
                      have hcz42_6 : wc.cell? ⟨gb189, 6, none⟩ = some (.bool false) := (blk_cell BK189.out 6).trans rfl
                      have hfz42_0 := blk_frozen BK189.out 0
                      have hfz42_1 := blk_frozen BK189.out 1
                      have hfz42_2 := blk_frozen BK189.out 2
                      have hfz42_3 := blk_frozen BK189.out 3
                      have hfz42_4 := blk_frozen BK189.out 4
                      have hfz42_5 := blk_frozen BK189.out 5
                      have hfz42_6 := blk_frozen BK189.out 6
                      go_wp2
                      go_meet
                      case rel => exact ⟨_, (false), (by first | rfl | (simp; done) | (simp [*]; done)), H', ⟨by have := HJ10.out; have := HJ17.out; first | omega | exact Nat.le_refl _⟩, ⟨by (with_reducible repeat (first | refine blk_drewN ?_ _ | refine blk_drew ?_ | refine blk_alloc ?_ _)); exact BK189.out⟩, ⟨by repeat (first | (with_reducible first | exact HB.out | apply below_alloc | apply pw_below_drewN | apply below_drew1 | refine below_set ?_ GE189.out) | exact HB.out)⟩⟩
                  · replace c30 := Bool.eq_false_iff.mpr c30
                    subst c30
                    have H1 : (gunnyref31_Kind.j2 kj17 x4_10 false false t183 t184 t185 t186 t187 false) = some r := by rw [if_neg (show ¬ (false = true) by decide)] at H; exact H
                    clear H
                    have H := H1
                    clear H1
                    have H' := Aside0.mk H
                    clear H
                    have hcz43_0 : wc.cell? ⟨gb189, 0, none⟩ = some (.bool false) := (blk_cell BK189.out 0).trans rfl
                    have hcz43_1 : wc.cell? ⟨gb189, 1, none⟩ = some (.bool t183) := (blk_cell BK189.out 1).trans rfl
                    have hcz43_2 : wc.cell? ⟨gb189, 2, none⟩ = some (.bool t184) := (blk_cell BK189.out 2).trans rfl
                    have hcz43_3 : wc.cell? ⟨gb189, 3, none⟩ = some (.bool t185) := (blk_cell BK189.out 3).trans rfl
                    have hcz43_4 : wc.cell? ⟨gb189, 4, none⟩ = some (.int .i64 t186) := (blk_cell BK189.out 4).trans rfl
                    have hcz43_5 : wc.cell? ⟨gb189, 5, none⟩ = some (.int .i64 t187) := (blk_cell BK189.out 5).trans rfl
                    have hcz43_6 : wc.cell? ⟨gb189, 6, none⟩ = some (.bool false) := (blk_cell BK189.out 6).trans rfl
                    have hfz43_0 := blk_frozen BK189.out 0
                    have hfz43_1 := blk_frozen BK189.out 1
                    have hfz43_2 := blk_frozen BK189.out 2
                    have hfz43_3 := blk_frozen BK189.out 3
                    have hfz43_4 := blk_frozen BK189.out 4
                    have hfz43_5 := blk_frozen BK189.out 5
                    have hfz43_6 := blk_frozen BK189.out 6
                    go_wp2
                    go_meet
                    case rel => exact ⟨_, (false), (by first | rfl | (simp; done) | (simp [*]; done)), H', ⟨by have := HJ10.out; have := HJ17.out; first | omega | exact Nat.le_refl _⟩, ⟨by (with_reducible repeat (first | refine blk_drewN ?_ _ | refine blk_drew ?_ | refine blk_alloc ?_ _)); exact BK189.out⟩, ⟨by repeat (first | (with_reducible first | exact HB.out | apply below_alloc | apply pw_below_drewN | apply below_drew1 | refine below_set ?_ GE189.out) | exact HB.out)⟩⟩
                case rest =>
                  clear HC29
                  try clear c1
                  try clear c2
                  try clear p2
                  try clear c3
                  try clear c3b0
                  try clear c3b1
                  try clear p6
                  try clear c7
                  try clear c15
                  try clear c16
                  try clear c17
                  try clear c19
                  try clear c20
                  try clear c20b0
                  try clear c20b1
                  try clear c21
                  try clear c23
                  try clear c28
                  try clear c30
                  try clear c31
                  try clear c33
                  try clear c34
                  try clear c34b0
                  try clear c35
                  try clear c36
                  try clear hcz10_0
                  try clear hcz10_1
                  try clear hcz10_2
                  try clear hcz10_3
                  try clear hcz10_4
                  try clear hcz10_5
                  try clear hcz10_6
                  try clear hcz14_0
                  try clear hcz14_1
                  try clear hcz14_2
                  try clear hcz14_3
                  try clear hcz14_4
                  try clear hcz14_5
                  try clear hcz14_6
                  try clear hcz16_0
                  try clear hcz16_1
                  try clear hcz16_2
                  try clear hcz16_3
                  try clear hcz16_4
                  try clear hcz16_5
                  try clear hcz16_6
                  try clear hcz17_0
                  try clear hcz17_1
                  try clear hcz17_2
                  try clear hcz17_3
                  try clear hcz17_4
                  try clear hcz17_5
                  try clear hcz17_6
                  try clear hcz22_0
                  try clear hcz22_1
                  try clear hcz22_2
                  try clear hcz22_3
                  try clear hcz22_4
                  try clear hcz22_5
                  try clear hcz22_6
                  try clear hcz24_0
                  try clear hcz24_1
                  try clear hcz24_2
                  try clear hcz24_3
                  try clear hcz24_4
                  try clear hcz24_5
                  try clear hcz24_6
                  try clear hcz25_0
                  try clear hcz25_1
                  try clear hcz25_2
                  try clear hcz25_3
                  try clear hcz25_4
                  try clear hcz25_5
                  try clear hcz25_6
                  try clear hcz26_0
                  try clear hcz26_1
                  try clear hcz26_2
                  try clear hcz26_3
                  try clear hcz26_4
                  try clear hcz26_5
                  try clear hcz26_6
                  try clear hcz27_0
                  try clear hcz27_1
                  try clear hcz27_2
                  try clear hcz27_3
                  try clear hcz27_4
                  try clear hcz27_5
                  try clear hcz27_6
                  try clear hcz37_0
                  try clear hcz37_1
                  try clear hcz37_2
                  try clear hcz37_3
                  try clear hcz37_4
                  try clear hcz37_5
                  try clear hcz37_6
                  try clear hcz38_0
                  try clear hcz38_1
                  try clear hcz38_2
                  try clear hcz38_3
                  try clear hcz38_4
                  try clear hcz38_5
                  try clear hcz38_6
                  try clear hcz39_0
                  try clear hcz39_1
                  try clear hcz39_2
                  try clear hcz39_3
                  try clear hcz39_4
                  try clear hcz39_5
                  try clear hcz39_6
                  try clear hcz40_0
                  try clear hcz40_1
                  try clear hcz40_2
                  try clear hcz40_3
                  try clear hcz40_4
                  try clear hcz40_5
                  try clear hcz40_6
                  try clear hcz41_0
                  try clear hcz41_1
                  try clear hcz41_2
                  try clear hcz41_3
                  try clear hcz41_4
                  try clear hcz41_5
                  try clear hcz41_6
                  try clear hcz42_0
                  try clear hcz42_1
                  try clear hcz42_2
                  try clear hcz42_3
                  try clear hcz42_4
                  try clear hcz42_5
                  try clear hcz42_6
                  try clear hcz43_0
                  try clear hcz43_1
                  try clear hcz43_2
                  try clear hcz43_3
                  try clear hcz43_4
                  try clear hcz43_5
                  try clear hcz43_6
                  try clear hcz6_0
                  try clear hcz6_1
                  try clear hcz6_2
                  try clear hcz6_3
                  try clear hcz6_4
                  try clear hcz6_5
                  try clear hcz6_6
                  try clear hfz10_0
                  try clear hfz10_1
                  try clear hfz10_2
                  try clear hfz10_3
                  try clear hfz10_4
                  try clear hfz10_5
                  try clear hfz10_6
                  try clear hfz14_0
                  try clear hfz14_1
                  try clear hfz14_2
                  try clear hfz14_3
                  try clear hfz14_4
                  try clear hfz14_5
                  try clear hfz14_6
                  try clear hfz16_0
                  try clear hfz16_1
                  try clear hfz16_2
                  try clear hfz16_3
                  try clear hfz16_4
                  try clear hfz16_5
                  try clear hfz16_6
                  try clear hfz17_0
                  try clear hfz17_1
                  try clear hfz17_2
                  try clear hfz17_3
                  try clear hfz17_4
                  try clear hfz17_5
                  try clear hfz17_6
                  try clear hfz22_0
                  try clear hfz22_1
                  try clear hfz22_2
                  try clear hfz22_3
                  try clear hfz22_4
                  try clear hfz22_5
                  try clear hfz22_6
                  try clear hfz24_0
                  try clear hfz24_1
                  try clear hfz24_2
                  try clear hfz24_3
                  try clear hfz24_4
                  try clear hfz24_5
                  try clear hfz24_6
                  try clear hfz25_0
                  try clear hfz25_1
                  try clear hfz25_2
                  try clear hfz25_3
                  try clear hfz25_4
                  try clear hfz25_5
                  try clear hfz25_6
                  try clear hfz26_0
                  try clear hfz26_1
                  try clear hfz26_2
                  try clear hfz26_3
                  try clear hfz26_4
                  try clear hfz26_5
                  try clear hfz26_6
                  try clear hfz27_0
                  try clear hfz27_1
                  try clear hfz27_2
                  try clear hfz27_3
                  try clear hfz27_4
                  try clear hfz27_5
                  try clear hfz27_6
                  try clear hfz37_0
                  try clear hfz37_1
                  try clear hfz37_2
                  try clear hfz37_3
                  try clear hfz37_4
                  try clear hfz37_5
                  try clear hfz37_6
                  try clear hfz38_0
                  try clear hfz38_1
                  try clear hfz38_2
                  try clear hfz38_3
                  try clear hfz38_4
                  try clear hfz38_5
                  try clear hfz38_6
                  try clear hfz39_0
                  try clear hfz39_1
                  try clear hfz39_2
                  try clear hfz39_3
                  try clear hfz39_4
                  try clear hfz39_5
                  try clear hfz39_6
                  try clear hfz40_0
                  try clear hfz40_1
                  try clear hfz40_2
                  try clear hfz40_3
                  try clear hfz40_4
                  try clear hfz40_5
                  try clear hfz40_6
                  try clear hfz41_0
                  try clear hfz41_1
                  try clear hfz41_2
                  try clear hfz41_3
                  try clear hfz41_4
                  try clear hfz41_5
                  try clear hfz41_6
                  try clear hfz42_0
                  try clear hfz42_1
                  try clear hfz42_2
                  try clear hfz42_3
                  try clear hfz42_4
                  try clear hfz42_5
                  try clear hfz42_6
                  try clear hfz43_0
                  try clear hfz43_1
                  try clear hfz43_2
                  try clear hfz43_3
                  try clear hfz43_4
                  try clear hfz43_5
                  try clear hfz43_6
                  try clear hfz6_0
                  try clear hfz6_1
                  try clear hfz6_2
                  try clear hfz6_3
                  try clear hfz6_4
                  try clear hfz6_5
                  try clear hfz6_6
                  try clear p2
                  obtain ⟨kq, x70_28, rfl, HA, HJ28, BK189, HB⟩ := hcut
                  cases kq with
                  | zero => exact absurd HA.out (by simp [gunnyref31_Kind.j2])
                  | succ kj28 =>
                    have H := HA.out
                    clear HA
                    simp only [gunnyref31_Kind.j2] at H
                    by_cases c44 : x70_28 = true
                    · subst c44
                      have H1 : (some 2) = some r := by rw [if_pos rfl] at H; exact H
                      clear H
                      have H := H1
                      clear H1
                      obtain rfl := Option.some.inj H
                      go_wp2
                      go_ret
                      exact ⟨by first | rfl | (simp [errW_none, errW_some] <;> rfl) | (simp [*, errW_none, errW_some] <;> rfl), by repeat (first | (with_reducible first | exact HB.out | apply below_alloc | apply pw_below_drewN | apply below_drew1 | refine below_set ?_ GE189.out) | exact HB.out)⟩
                    · replace c44 := Bool.eq_false_iff.mpr c44
                      subst c44
                      have H1 : (if t182 = true then (some 4) else (if t183 = true then ((gunnyref31_May.f t186).bind fun t191 => (if t191 = true then (if x4_10 = true then (if t187 ≤ 512 then (some 3) else (some 4)) else (some 4)) else (some 4))) else (some 4))) = some r := by rw [if_neg (show ¬ (false = true) by decide)] at H; exact H
                      clear H
                      have H := H1
                      clear H1
                      by_cases c45 : t182 = true
                      · subst c45
                        have H1 : (some 4) = some r := by rw [if_pos rfl] at H; exact H
                        clear H
                        have H := H1
                        clear H1
                        obtain rfl := Option.some.inj H
                        have hcz46_0 : wc.cell? ⟨gb189, 0, none⟩ = some (.bool true) := (blk_cell BK189.out 0).trans rfl
                        have hcz46_1 : wc.cell? ⟨gb189, 1, none⟩ = some (.bool t183) := (blk_cell BK189.out 1).trans rfl
                        have hcz46_2 : wc.cell? ⟨gb189, 2, none⟩ = some (.bool t184) := (blk_cell BK189.out 2).trans rfl
                        have hcz46_3 : wc.cell? ⟨gb189, 3, none⟩ = some (.bool t185) := (blk_cell BK189.out 3).trans rfl
                        have hcz46_4 : wc.cell? ⟨gb189, 4, none⟩ = some (.int .i64 t186) := (blk_cell BK189.out 4).trans rfl
                        have hcz46_5 : wc.cell? ⟨gb189, 5, none⟩ = some (.int .i64 t187) := (blk_cell BK189.out 5).trans rfl
                        have hcz46_6 : wc.cell? ⟨gb189, 6, none⟩ = some (.bool false) := (blk_cell BK189.out 6).trans rfl
                        have hfz46_0 := blk_frozen BK189.out 0
                        have hfz46_1 := blk_frozen BK189.out 1
                        have hfz46_2 := blk_frozen BK189.out 2
                        have hfz46_3 := blk_frozen BK189.out 3
                        have hfz46_4 := blk_frozen BK189.out 4
                        have hfz46_5 := blk_frozen BK189.out 5
                        have hfz46_6 := blk_frozen BK189.out 6
                        go_wp2
                        go_ret
                        exact ⟨by first | rfl | (simp [errW_none, errW_some] <;> rfl) | (simp [*, errW_none, errW_some] <;> rfl), by repeat (first | (with_reducible first | exact HB.out | apply below_alloc | apply pw_below_drewN | apply below_drew1 | refine below_set ?_ GE189.out) | exact HB.out)⟩
                      · replace c45 := Bool.eq_false_iff.mpr c45
                        subst c45
                        have H1 : (if t183 = true then ((gunnyref31_May.f t186).bind fun t191 => (if t191 = true then (if x4_10 = true then (if t187 ≤ 512 then (some 3) else (some 4)) else (some 4)) else (some 4))) else (some 4)) = some r := by rw [if_neg (show ¬ (false = true) by decide)] at H; exact H
                        clear H
                        have H := H1
                        clear H1
                        by_cases c47 : t183 = true
                        · subst c47
                          have H1 : ((gunnyref31_May.f t186).bind fun t191 => (if t191 = true then (if x4_10 = true then (if t187 ≤ 512 then (some 3) else (some 4)) else (some 4)) else (some 4))) = some r := by rw [if_pos rfl] at H; exact H
                          clear H
                          have H := H1
                          clear H1
                          replace H := Option.bind_eq_some_iff.mp H
                          obtain ⟨t191, A480, H⟩ := H
                          replace H : (if t191 = true then (if x4_10 = true then (if t187 ≤ 512 then (some 3) else (some 4)) else (some 4)) else (some 4)) = some r := H
                          have A48 := Aside0.mk A480
                          clear A480
                          by_cases c49 : t191 = true
                          · subst c49
                            have H1 : (if x4_10 = true then (if t187 ≤ 512 then (some 3) else (some 4)) else (some 4)) = some r := by rw [if_pos rfl] at H; exact H
                            clear H
                            have H := H1
                            clear H1
                            by_cases c50 : x4_10 = true
                            · subst c50
                              have H1 : (if t187 ≤ 512 then (some 3) else (some 4)) = some r := by rw [if_pos rfl] at H; exact H
                              clear H
                              have H := H1
                              clear H1
                              by_cases c51 : t187 ≤ 512
                              · rw [if_pos c51] at H
                                have c51b0 : decide (t187 ≤ 512) = true := decide_eq_true c51
                                clear c51
                                obtain rfl := Option.some.inj H
                                have hcz52_0 : wc.cell? ⟨gb189, 0, none⟩ = some (.bool false) := (blk_cell BK189.out 0).trans rfl
                                have hcz52_1 : wc.cell? ⟨gb189, 1, none⟩ = some (.bool true) := (blk_cell BK189.out 1).trans rfl
                                have hcz52_2 : wc.cell? ⟨gb189, 2, none⟩ = some (.bool t184) := (blk_cell BK189.out 2).trans rfl
                                have hcz52_3 : wc.cell? ⟨gb189, 3, none⟩ = some (.bool t185) := (blk_cell BK189.out 3).trans rfl
                                have hcz52_4 : wc.cell? ⟨gb189, 4, none⟩ = some (.int .i64 t186) := (blk_cell BK189.out 4).trans rfl
                                have hcz52_5 : wc.cell? ⟨gb189, 5, none⟩ = some (.int .i64 t187) := (blk_cell BK189.out 5).trans rfl
                                have hcz52_6 : wc.cell? ⟨gb189, 6, none⟩ = some (.bool false) := (blk_cell BK189.out 6).trans rfl
                                have hfz52_0 := blk_frozen BK189.out 0
                                have hfz52_1 := blk_frozen BK189.out 1
                                have hfz52_2 := blk_frozen BK189.out 2
                                have hfz52_3 := blk_frozen BK189.out 3
                                have hfz52_4 := blk_frozen BK189.out 4
                                have hfz52_5 := blk_frozen BK189.out 5
                                have hfz52_6 := blk_frozen BK189.out 6
                                go_wp2_with (first | (go_at_call 10; (with_reducible refine (gunnyref31_May.calls t186 true _ A48.out).mono ?_); rintro e w' ⟨rfl, ⟨nd, rfl⟩⟩))
                                go_ret
                                exact ⟨by first | rfl | (simp [errW_none, errW_some] <;> rfl) | (simp [*, errW_none, errW_some] <;> rfl), by repeat (first | (with_reducible first | exact HB.out | apply below_alloc | apply pw_below_drewN | apply below_drew1 | refine below_set ?_ GE189.out) | exact HB.out)⟩
                              · rw [if_neg c51] at H
                                have c51b0 : decide (t187 ≤ 512) = false := decide_eq_false c51
                                clear c51
                                obtain rfl := Option.some.inj H
                                have hcz53_0 : wc.cell? ⟨gb189, 0, none⟩ = some (.bool false) := (blk_cell BK189.out 0).trans rfl
                                have hcz53_1 : wc.cell? ⟨gb189, 1, none⟩ = some (.bool true) := (blk_cell BK189.out 1).trans rfl
                                have hcz53_2 : wc.cell? ⟨gb189, 2, none⟩ = some (.bool t184) := (blk_cell BK189.out 2).trans rfl
                                have hcz53_3 : wc.cell? ⟨gb189, 3, none⟩ = some (.bool t185) := (blk_cell BK189.out 3).trans rfl
                                have hcz53_4 : wc.cell? ⟨gb189, 4, none⟩ = some (.int .i64 t186) := (blk_cell BK189.out 4).trans rfl
                                have hcz53_5 : wc.cell? ⟨gb189, 5, none⟩ = some (.int .i64 t187) := (blk_cell BK189.out 5).trans rfl
                                have hcz53_6 : wc.cell? ⟨gb189, 6, none⟩ = some (.bool false) := (blk_cell BK189.out 6).trans rfl
                                have hfz53_0 := blk_frozen BK189.out 0
                                have hfz53_1 := blk_frozen BK189.out 1
                                have hfz53_2 := blk_frozen BK189.out 2
                                have hfz53_3 := blk_frozen BK189.out 3
                                have hfz53_4 := blk_frozen BK189.out 4
                                have hfz53_5 := blk_frozen BK189.out 5
                                have hfz53_6 := blk_frozen BK189.out 6
                                go_wp2_with (first | (go_at_call 10; (with_reducible refine (gunnyref31_May.calls t186 true _ A48.out).mono ?_); rintro e w' ⟨rfl, ⟨nd, rfl⟩⟩))
                                go_ret
                                exact ⟨by first | rfl | (simp [errW_none, errW_some] <;> rfl) | (simp [*, errW_none, errW_some] <;> rfl), by repeat (first | (with_reducible first | exact HB.out | apply below_alloc | apply pw_below_drewN | apply below_drew1 | refine below_set ?_ GE189.out) | exact HB.out)⟩
                            · replace c50 := Bool.eq_false_iff.mpr c50
                              subst c50
                              have H1 : (some 4) = some r := by rw [if_neg (show ¬ (false = true) by decide)] at H; exact H
                              clear H
                              have H := H1
                              clear H1
                              obtain rfl := Option.some.inj H
                              have hcz54_0 : wc.cell? ⟨gb189, 0, none⟩ = some (.bool false) := (blk_cell BK189.out 0).trans rfl
                              have hcz54_1 : wc.cell? ⟨gb189, 1, none⟩ = some (.bool true) := (blk_cell BK189.out 1).trans rfl
                              have hcz54_2 : wc.cell? ⟨gb189, 2, none⟩ = some (.bool t184) := (blk_cell BK189.out 2).trans rfl
                              have hcz54_3 : wc.cell? ⟨gb189, 3, none⟩ = some (.bool t185) := (blk_cell BK189.out 3).trans rfl
                              have hcz54_4 : wc.cell? ⟨gb189, 4, none⟩ = some (.int .i64 t186) := (blk_cell BK189.out 4).trans rfl
                              have hcz54_5 : wc.cell? ⟨gb189, 5, none⟩ = some (.int .i64 t187) := (blk_cell BK189.out 5).trans rfl
                              have hcz54_6 : wc.cell? ⟨gb189, 6, none⟩ = some (.bool false) := (blk_cell BK189.out 6).trans rfl
                              have hfz54_0 := blk_frozen BK189.out 0
                              have hfz54_1 := blk_frozen BK189.out 1
                              have hfz54_2 := blk_frozen BK189.out 2
                              have hfz54_3 := blk_frozen BK189.out 3
                              have hfz54_4 := blk_frozen BK189.out 4
                              have hfz54_5 := blk_frozen BK189.out 5
                              have hfz54_6 := blk_frozen BK189.out 6
                              go_wp2_with (first | (go_at_call 10; (with_reducible refine (gunnyref31_May.calls t186 true _ A48.out).mono ?_); rintro e w' ⟨rfl, ⟨nd, rfl⟩⟩))
                              go_ret
                              exact ⟨by first | rfl | (simp [errW_none, errW_some] <;> rfl) | (simp [*, errW_none, errW_some] <;> rfl), by repeat (first | (with_reducible first | exact HB.out | apply below_alloc | apply pw_below_drewN | apply below_drew1 | refine below_set ?_ GE189.out) | exact HB.out)⟩
                          · replace c49 := Bool.eq_false_iff.mpr c49
                            subst c49
                            have H1 : (some 4) = some r := by rw [if_neg (show ¬ (false = true) by decide)] at H; exact H
                            clear H
                            have H := H1
                            clear H1
                            obtain rfl := Option.some.inj H
                            have hcz55_0 : wc.cell? ⟨gb189, 0, none⟩ = some (.bool false) := (blk_cell BK189.out 0).trans rfl
                            have hcz55_1 : wc.cell? ⟨gb189, 1, none⟩ = some (.bool true) := (blk_cell BK189.out 1).trans rfl
                            have hcz55_2 : wc.cell? ⟨gb189, 2, none⟩ = some (.bool t184) := (blk_cell BK189.out 2).trans rfl
                            have hcz55_3 : wc.cell? ⟨gb189, 3, none⟩ = some (.bool t185) := (blk_cell BK189.out 3).trans rfl
                            have hcz55_4 : wc.cell? ⟨gb189, 4, none⟩ = some (.int .i64 t186) := (blk_cell BK189.out 4).trans rfl
                            have hcz55_5 : wc.cell? ⟨gb189, 5, none⟩ = some (.int .i64 t187) := (blk_cell BK189.out 5).trans rfl
                            have hcz55_6 : wc.cell? ⟨gb189, 6, none⟩ = some (.bool false) := (blk_cell BK189.out 6).trans rfl
                            have hfz55_0 := blk_frozen BK189.out 0
                            have hfz55_1 := blk_frozen BK189.out 1
                            have hfz55_2 := blk_frozen BK189.out 2
                            have hfz55_3 := blk_frozen BK189.out 3
                            have hfz55_4 := blk_frozen BK189.out 4
                            have hfz55_5 := blk_frozen BK189.out 5
                            have hfz55_6 := blk_frozen BK189.out 6
                            go_wp2_with (first | (go_at_call 10; (with_reducible refine (gunnyref31_May.calls t186 false _ A48.out).mono ?_); rintro e w' ⟨rfl, ⟨nd, rfl⟩⟩))
                            go_ret
                            exact ⟨by first | rfl | (simp [errW_none, errW_some] <;> rfl) | (simp [*, errW_none, errW_some] <;> rfl), by repeat (first | (with_reducible first | exact HB.out | apply below_alloc | apply pw_below_drewN | apply below_drew1 | refine below_set ?_ GE189.out) | exact HB.out)⟩
                        · replace c47 := Bool.eq_false_iff.mpr c47
                          subst c47
                          have H1 : (some 4) = some r := by rw [if_neg (show ¬ (false = true) by decide)] at H; exact H
                          clear H
                          have H := H1
                          clear H1
                          obtain rfl := Option.some.inj H
                          have hcz56_0 : wc.cell? ⟨gb189, 0, none⟩ = some (.bool false) := (blk_cell BK189.out 0).trans rfl
                          have hcz56_1 : wc.cell? ⟨gb189, 1, none⟩ = some (.bool false) := (blk_cell BK189.out 1).trans rfl
                          have hcz56_2 : wc.cell? ⟨gb189, 2, none⟩ = some (.bool t184) := (blk_cell BK189.out 2).trans rfl
                          have hcz56_3 : wc.cell? ⟨gb189, 3, none⟩ = some (.bool t185) := (blk_cell BK189.out 3).trans rfl
                          have hcz56_4 : wc.cell? ⟨gb189, 4, none⟩ = some (.int .i64 t186) := (blk_cell BK189.out 4).trans rfl
                          have hcz56_5 : wc.cell? ⟨gb189, 5, none⟩ = some (.int .i64 t187) := (blk_cell BK189.out 5).trans rfl
                          have hcz56_6 : wc.cell? ⟨gb189, 6, none⟩ = some (.bool false) := (blk_cell BK189.out 6).trans rfl
                          have hfz56_0 := blk_frozen BK189.out 0
                          have hfz56_1 := blk_frozen BK189.out 1
                          have hfz56_2 := blk_frozen BK189.out 2
                          have hfz56_3 := blk_frozen BK189.out 3
                          have hfz56_4 := blk_frozen BK189.out 4
                          have hfz56_5 := blk_frozen BK189.out 5
                          have hfz56_6 := blk_frozen BK189.out 6
                          go_wp2
                          go_ret
                          exact ⟨by first | rfl | (simp [errW_none, errW_some] <;> rfl) | (simp [*, errW_none, errW_some] <;> rfl), by repeat (first | (with_reducible first | exact HB.out | apply below_alloc | apply pw_below_drewN | apply below_drew1 | refine below_set ?_ GE189.out) | exact HB.out)⟩

end Go.Proofs.Ytcadfblcpfhjfaa.R
