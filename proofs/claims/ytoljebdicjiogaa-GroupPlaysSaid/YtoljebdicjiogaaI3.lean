/- GroupPlays: walked (written by genI3.py). -/
import Derived.Test.YtoljebdicjiogaaH3a
import Derived.Test.YtoljebdicjiogaaI2
import Derived.Deep.RegionLaw
import Derived.Deep.RegionHeld3
import Derived.Deep.DeepCutAuto
namespace Go.Proofs.Ytoljebdicjiogaa.Hand
set_option linter.unusedVariables false
set_option linter.unusedSimpArgs false
open Go.RowKit Go.Maps Go.Proofs.Ytoljebdicjiogaa.R Go.Proofs.YtoljebdicjiogaaW.PrintWords Go.Proofs.YtoljebdicjiogaaW.PrintLast Go.Proofs.YtoljebdicjiogaaW.PrintMore

set_option maxHeartbeats 64000000 in
set_option maxRecDepth 100000 in
theorem plays_law (A : Option Addr) (c : Nat) (ls : List S30) (A1 : Option Addr) (c1 : Nat) (but : List Int) (W : World) (hC : Kd.C k30 W A ls.length ls) (hc : ls.length ≤ c) (hwf : ∀ x ∈ ls, (Lit.int .i64 x.f0).wf = true) (hC1 : Kd.C (Kd.int .i64) W A1 but.length but) (hc1 : but.length ≤ c1) :
    Calls Try.prog 5 #[.slice A ls.length c, .slice A1 but.length c1] W fun e w' => e = .returned (.bool true) ∧ Below W.heap.size W w' := by
  replace hC := Aside0.mk hC
  replace hC1 := Aside0.mk hC1
  replace hc1 := Aside0.mk hc1
  replace hwf := Aside0.mk hwf
  clear hc
  go_enter Try.func5, Try.ntmps5
  go_upto_region 6 with (first
    | (go_at_call 13; refine (count_nil _).mono ?_; have hzz := hn3; rintro e n4 ⟨rfl, hn4⟩; replace hn4 := Aside0.mk (below_step hn3.out hn4))
    | (go_at_call 18; refine (room_nil _).mono ?_; have hzz := hn2; rintro e n3 ⟨rfl, hn3⟩; replace hn3 := Aside0.mk (below_step hn2.out hn3))
    | (go_at_call 17; refine (drop_nil _ _).mono ?_; have hzz := hn2; rintro e n2b ⟨rfl, rfl⟩)
    | (go_at_call 11; refine (put_nil _ _ _ _).mono ?_; have hzz := hn2; rintro e n2a ⟨rfl, rfl⟩)
    | (go_at_call 15; refine (worst_nil _).mono ?_; have hzz := hn1; rintro e n2 ⟨rfl, hn2⟩; replace hn2 := Aside0.mk (below_step hn1.out hn2))
    | (go_at_call 14; refine (best_nil _).mono ?_; rintro e n1 ⟨rfl, hn1⟩; replace hn1 := Aside0.mk hn1))
  try clear hzz
  clear hn1 hn2 hn3
  by_cases h60 : ls.length > 60 ∨ but.length > 20
  · by_cases h61 : ls.length > 60
    · have d0 : decide (((ls.length : Nat) : Int) > 60) = true := decide_eq_true (by omega)
      clear h60 h61
      go_wp2_with (go_at_call 7; refine (lives_calls _).mono ?_; rintro e w9 ⟨rfl, hb9⟩; replace hb9 := Aside0.mk hb9)
      go_returns
      exact ⟨rfl, below_step hn4.out hb9.out⟩
    · have d0 : decide (((ls.length : Nat) : Int) > 60) = false := decide_eq_false (by omega)
      have d0' : decide (ls.length > 60) = false := decide_eq_false h61
      have d1 : decide (((but.length : Nat) : Int) > 20) = true := decide_eq_true (by omega)
      have d1' : decide (but.length > 20) = true := decide_eq_true (by omega)
      clear h60 h61
      go_wp2_with (go_at_call 7; refine (lives_calls _).mono ?_; rintro e w9 ⟨rfl, hb9⟩; replace hb9 := Aside0.mk hb9)
      go_returns
      exact ⟨rfl, below_step hn4.out hb9.out⟩
  · have hb20 : ¬ but.length > 20 := by omega
    replace h60 : ¬ ls.length > 60 := by omega
    have d0 : decide (((ls.length : Nat) : Int) > 60) = false := decide_eq_false (by omega)
    have d0' : decide (ls.length > 60) = false := decide_eq_false h60
    have d1 : decide (((but.length : Nat) : Int) > 20) = false := decide_eq_false (by omega)
    have d1' : decide (but.length > 20) = false := decide_eq_false hb20
    replace h60 := Aside0.mk h60
    replace hb20 := Aside0.mk hb20
    go_upto_region 9 with (go_at_call 10; refine (newb_calls _).mono ?_; rintro e w1 ⟨rfl, hB1, hb1⟩; replace hB1 := Aside0.mk hB1; replace hb1 := Aside0.mk hb1)
    obtain ⟨bb, hbb⟩ : ∃ b, b = n4.heap.size + 1 := ⟨_, rfl⟩
    obtain ⟨mb, hmb⟩ : ∃ b, b = n4.heap.size := ⟨_, rfl⟩
    have hB1' := hB1.out
    rw [← hbb, ← hmb] at hB1'
    rw [← hbb]
    have hI := Aside0.mk (show GI W bb mb (.slice none 0 0) 0 (.map []) [] w1 from ⟨hB1', RelD.start, Kd.R_nil _ _ _ _ _, below_step hn4.out hb1.out, by have := hn4.out.size; omega, by have := hn4.out.size; omega⟩)
    clear hB1' hB1 hb1 hbb hmb hn4
    go_wp2
    go_loopg [11, 12] ls.length (fun kq v11 v12 w' => ∃ (i : Nat) (D : DataW Unit) (l : List S30), True ∧ v12 = .int .i64 (i : Int) ∧ Aside0 (i + kq = ls.length ∧ l.length ≤ i) ∧ Aside0 (GI W bb mb v11 i D l w'))
    case atStart => exact ⟨0, .map [], [], trivial, rfl, ⟨by omega, Nat.le_refl _⟩, hI⟩
    case round =>
      clear hI
      obtain ⟨i, D, l, _, rfl, HK, HI⟩ := hrel
      obtain ⟨A8, c8, e8⟩ := Kd.R_slice HI.out.x
      subst e8
      cases gk with
      | zero =>
        obtain rfl : i = ls.length := by have := HK.out; omega
        have d3 : decide (((ls.length : Nat) : Int) < ((ls.length : Nat) : Int)) = false := decide_eq_false (by omega)
        go_wp2_with (go_at_call 7; refine (lives_calls _).mono ?_; rintro e w9 ⟨rfl, hb9⟩; replace hb9 := Aside0.mk hb9)
        go_returns
        exact ⟨rfl, below_step HI.out.bel hb9.out⟩
      | succ k1 =>
        have hi : i < ls.length := by have := HK.out; omega
        have d3 : decide ((i : Int) < ((ls.length : Nat) : Int)) = true := decide_eq_true (by omega)
        have d4 : decide (i < ls.length) = true := decide_eq_true hi
        have i0 : (0 : Int) ≤ (i : Int) := by omega
        have hi9 : i < ls.length := hi
        obtain ⟨ad, rfl, hcs⟩ := at3 hC.out i hi
        have hw0 := Aside0.mk (hwf.out _ (List.getElem_mem hi))
        generalize ls[i] = x at hcs hw0
        obtain ⟨c0, c1', c2⟩ := hcs wr HI.out.bel
        have ws := Aside0.mk (w64s i (by have := h60.out; omega))
        replace hi := Aside0.mk hi
        clear hcs
        have hb0 := box3 wr x.f0 x.f1 x.f2
        have HIb := Aside0.mk (HI.out.below (below_alloc (Below.refl _ wr) (.cells #[.int .i64 x.f0, .int .i64 x.f1, .int .i64 x.f2] 30 (0, 0))))
        have hmg : mb < wr.heap.size := HI.out.bk.mlt.2
        replace hb0 := Aside0.mk hb0
        replace hmg := Aside0.mk hmg
        go_upto_region 14 with fail
        generalize wr.alloc (.cells #[.int .i64 x.f0, .int .i64 x.f1, .int .i64 x.f2] 30 (0, 0)) = wb at hb0 HIb ⊢
        generalize wr.heap.size = gb at hb0 hmg ⊢
        clear HI c0 c1' c2 d3 d4 i0 hi9
        obtain ⟨y0, y1, y2⟩ := hb0.out wb (Below.refl _ _)
        by_cases hu : x.f1 > 100000000 ∨ x.f1 < -100000000
        · have hU := Aside0.mk (fun w => big_yes hu w)
          clear hu
          go_wp2_with (first | (go_at_call 6; refine (hU.out _).mono ?_; rintro e w2 ⟨rfl, hd2⟩; replace hd2 := Aside0.mk hd2.below) | (go_at_call 7; refine (lives_calls _).mono ?_; rintro e w9 ⟨rfl, hb9⟩; replace hb9 := Aside0.mk hb9))
          go_returns
          exact ⟨rfl, below_step HIb.out.bel (below_step hd2.out hb9.out)⟩
        · by_cases hm : x.f2 > 100000000 ∨ x.f2 < -100000000
          · have hU := Aside0.mk (fun w => big_no hu w)
            have hM := Aside0.mk (fun w => big_yes hm w)
            clear hu hm
            go_wp2_with (first | (go_at_call 6; refine (hM.out _).mono ?_; have hd2' := hd2; rintro e w3 ⟨rfl, hd3⟩; replace hd3 := Aside0.mk (below_step hd2.out hd3.below)) | (go_at_call 6; refine (hU.out _).mono ?_; rintro e w2 ⟨rfl, hd2⟩; replace hd2 := Aside0.mk hd2.below; obtain ⟨x0, x1, x2⟩ := hb0.out _ hd2.out) | (go_at_call 7; refine (lives_calls _).mono ?_; rintro e w9 ⟨rfl, hb9⟩; replace hb9 := Aside0.mk hb9))
            go_returns
            exact ⟨rfl, below_step HIb.out.bel (below_step hd3.out hb9.out)⟩
          · have hU := Aside0.mk (fun w => big_no hu w)
            have hM := Aside0.mk (fun w => big_no hm w)
            go_upto_region 16 with (first | (go_at_call 6; refine (hM.out _).mono ?_; have hd2' := hd2; rintro e w3 ⟨rfl, hd3⟩; replace hd3 := Aside0.mk (below_step hd2.out hd3.below)) | (go_at_call 6; refine (hU.out _).mono ?_; rintro e w2 ⟨rfl, hd2⟩; replace hd2 := Aside0.mk hd2.below; obtain ⟨x0, x1, x2⟩ := hb0.out _ hd2.out))
            have HI3 := Aside0.mk (HIb.out.below hd3.out)
            have hz := hb0.out _ hd3.out
            clear HIb hd2 hU hM y0 y1 y2 x0 x1 x2 hd3 hd2' hb0
            have hgm : gb ≠ mb := by have := hmg.out; omega
            by_cases hneg : x.f1 < 0
            · have d7 : decide (x.f1 < 0) = true := decide_eq_true hneg
              have hD := drop_calls bb mb i D l x.f0 w3 HI3.out.bk HI3.out.rel hw0.out
              have hlen : (dropL l x.f0).length ≤ l.length := List.length_filter_le _ _
              have hds := drop_some HI3.out.rel.nd (by have := HK.out; have := h60.out; omega) x.f0
              have hrel := Aside0.mk (HI3.out.rel.del x.f0)
              rw [HI3.out.rel.has x.f0] at hD
              generalize dropL l x.f0 = l5 at hlen hds hrel
              generalize l.any (fun h => h.f0 == x.f0) = b at hD hds
              generalize D.del (.int .i64 x.f0) = D5 at hD hrel
              have hl5 := Aside0.mk (show l5.length ≤ i + 1 by have := HK.out; omega)
              obtain ⟨z0, z1, z2⟩ := hz
              replace hD := Aside0.mk hD
              replace hds := Aside0.mk hds
              replace hgm := Aside0.mk hgm
              clear hneg hu hm hlen
              go_upto_region 19 with (go_at_call 17; refine hD.out.mono ?_; rintro e w4 ⟨rfl, hB4, hf4⟩; replace hB4 := Aside0.mk hB4; replace hf4 := Aside0.mk hf4)
              have hx4 := Aside0.mk (x_far HI3.out.x hf4.out)
              have hb4 := Aside0.mk (far_below0 HI3.out.bel hf4.out HI3.out.lo.2)
              obtain ⟨t0, t1, t2⟩ := box_far hf4.out hgm.out ⟨z0, z1, z2⟩
              have hRD := Aside0.mk (rdrop_calls x.f0 l5 b hB4.out hx4.out hb4.out hds.out)
              clear z0 z1 z2 hf4 hD
              go_upto_region 22 with (go_at_call 19; refine hRD.out.mono ?_; rintro e w5 ⟨v5, rfl, hB5, hx5, hb5⟩; replace hB5 := Aside0.mk hB5; replace hx5 := Aside0.mk hx5; replace hb5 := Aside0.mk hb5)
              have HI5 := Aside0.mk (GI.mono (⟨hB5.out, hrel.out, hx5.out, hb5.out, HI3.out.lo⟩ : GI W bb mb v5 i D5 l5 w5) (Nat.le_succ i))
              clear hB5 hx5 hb5 hrel HI3 hRD hB4 hx4 hb4 t0 t1 t2 hds d7 hw0
              obtain ⟨A9, c9, e9⟩ := Kd.R_slice HI5.out.x
              subst e9
              have hr5 := Kd.R_reads' HI5.out.x
              have hl5' : l5.length ≤ 60 := by have := hl5.out; have := h60.out; have := HK.out; omega
              have hok5 : okL l5 := HI5.out.rel.ok
              have hBut := Aside0.mk (gunnyref18_But.calls _ A9 c9 l5 A1 c1 but (butL l5 but) w5 hr5.2.2 hr5.2.1 (Kd.C_below hC1.out HI5.out.bel) hc1.out (but_some l5 but (by have := hb20.out; omega) (by omega)))
              go_upto_region 23 with (go_at_call 20; refine hBut.out.mono ?_; rintro e w6 ⟨vB, rfl, hRB, hb6⟩; replace hRB := Aside0.mk hRB; replace hb6 := Aside0.mk hb6)
              clear hBut
              obtain ⟨AB, cB, eB⟩ := Kd.R_slice hRB.out
              subst eB
              have hyB := Kd.R_reads' hRB.out
              have HI6 := Aside0.mk (HI5.out.below hb6.out)
              have hC5 := Aside0.mk (Kd.C_below hr5.2.2 hb6.out)
              have hcB5 := Aside0.mk hr5.2.1
              have hCy := Aside0.mk hyB.2.2
              have hcy := Aside0.mk hyB.2.1
              have hi6 : i + 1 ≤ 100000 := by have := h60.out; have := HK.out; omega
              have hbl : but.length < 4611686018427387904 := by have := hb20.out; omega
              have hBe1 := fun (w : World) (k : Below w6.heap.size w6 w) => (best_calls bb mb (i + 1) D5 l5 A1 c1 but w (HI6.out.bk.below k) HI6.out.rel hi6 (by omega) (Kd.C_below hC1.out (below_step HI6.out.bel k)) hc1.out hbl).mono (fun e w' h => (⟨h.1, below_step k h.2⟩ : _ ∧ Below w6.heap.size w6 w'))
              have hBe2 := fun (w : World) (k : Below w6.heap.size w6 w) => (best_calls bb mb (i + 1) D5 l5 none 0 [] w (HI6.out.bk.below k) HI6.out.rel hi6 (by omega) (nilC w) (Nat.le_refl _) (by simp)).mono (fun e w' h => (⟨h.1, below_step k h.2⟩ : _ ∧ Below w6.heap.size w6 w'))
              have hWo := fun (w : World) (k : Below w6.heap.size w6 w) => (worst_calls bb mb (i + 1) D5 l5 w (HI6.out.bk.below k) HI6.out.rel hi6 (by omega)).mono (fun e w' h => (⟨h.1, below_step k h.2⟩ : _ ∧ Below w6.heap.size w6 w'))
              have hRo := fun (w : World) (k : Below w6.heap.size w6 w) => (room_calls bb mb (i + 1) D5 l5 A1 c1 but w (HI6.out.bk.below k) HI6.out.rel hi6 (by omega) (Kd.C_below hC1.out (below_step HI6.out.bel k)) hc1.out hbl).mono (fun e w' h => (⟨h.1, below_step k h.2⟩ : _ ∧ Below w6.heap.size w6 w'))
              have hCn := fun (g : Int) (w : World) (k : Below w6.heap.size w6 w) => (count_calls bb mb (i + 1) D5 l5 g w (HI6.out.bk.below k) HI6.out.rel hi6 (by omega)).mono (fun e w' h => (⟨h.1, below_step k h.2⟩ : _ ∧ Below w6.heap.size w6 w'))
              rw [room_eq HI6.out.rel.nd but] at hRo
              simp only [cnt_eq HI6.out.rel.nd] at hCn
              obtain ⟨r1, hr1, hq1⟩ := refbest_some (butL l5 but) (by have := butL_length l5 but; omega) (fun y hy => hok5 y (mem_butL.1 hy).1)
              obtain ⟨r2, hr2, hq2⟩ := refbest_some l5 (by omega) hok5
              obtain ⟨r3, hr3, hq3⟩ := refworst_some l5 (by omega) hok5
              have hT1 := told_best HI6.out.rel but _ (best_spec l5 (numL l5 but) (numL_rising HI6.out.rel.nd but)) r1 hq1
              have hT2 := told_best HI6.out.rel [] _ (best_spec l5 (numL l5 []) (numL_rising HI6.out.rel.nd [])) r2 (by rw [butL_nil]; exact hq2)
              have hT3 := told_worst HI6.out.rel _ (worst_spec l5 (numL l5 []) (numL_rising HI6.out.rel.nd [])) r3 hq3
              generalize bestF l5 (numL l5 but) (0, false) = s1 at hBe1 hT1
              generalize bestF l5 (numL l5 []) (0, false) = s2 at hBe2 hT2
              generalize worstF l5 (numL l5 []) (0, false) = s3 at hWo hT3
              obtain ⟨p1, o1⟩ := s1
              obtain ⟨p2, o2⟩ := s2
              obtain ⟨p3, o3⟩ := s3
              dsimp only at hBe1 hBe2 hWo hT1 hT2 hT3
              have hoky : okL (butL l5 but) := fun y hy => hok5 y (mem_butL.1 hy).1
              have hly : (butL l5 but).length ≤ 60 := Nat.le_trans (butL_length l5 but) hl5'
              have hK1 := Aside0.mk (fun (w : World) (k : Below w6.heap.size w6 w) => gunnyref18_Best.calls _ AB cB (butL l5 but) r1 w (Kd.C_below hCy.out k) hcy.out hr1)
              generalize butL l5 but = y at hCy hcy hRo hoky hly hK1 ⊢
              have hK2 := Aside0.mk (fun (w : World) (k : Below w6.heap.size w6 w) => gunnyref18_Best.calls _ A9 c9 l5 r2 w (Kd.C_below hC5.out k) hcB5.out hr2)
              have hK3 := Aside0.mk (fun (w : World) (k : Below w6.heap.size w6 w) => gunnyref18_Worst.calls _ A9 c9 l5 r3 w (Kd.C_below hC5.out k) hcB5.out hr3)
              have hU1 := Aside0.mk (fun w => gunnylaw18_told.calls p1 o1 r1 true w hT1)
              have hU2 := Aside0.mk (fun w => gunnylaw18_told.calls p2 o2 r2 true w hT2)
              have hU3 := Aside0.mk (fun w => gunnylaw18_told.calls p3 o3 r3 true w hT3)
              replace hBe1 := Aside0.mk hBe1
              replace hBe2 := Aside0.mk hBe2
              replace hWo := Aside0.mk hWo
              replace hRo := Aside0.mk hRo
              replace hCn := Aside0.mk hCn
              replace hok5 := Aside0.mk hok5
              replace hoky := Aside0.mk hoky
              replace hly := Aside0.mk hly
              replace hl5' := Aside0.mk hl5'
              clear hT1 hT2 hT3 hr1 hr2 hr3 hq1 hq2 hq3 hi6 hbl hyB hr5 HI5 hRB hb6
              go_upto_region 26 with (first
                | (go_at_call 14; refine (hBe2.out _ hn1.out).mono ?_; rintro e u2 ⟨rfl, hn2⟩; replace hn2 := Aside0.mk hn2)
                | (go_at_call 14; refine (hBe1.out _ (Below.refl _ _)).mono ?_; rintro e u1 ⟨rfl, hn1⟩; replace hn1 := Aside0.mk hn1)
                | (go_at_call 15; refine (hWo.out _ hn2.out).mono ?_; rintro e u3 ⟨rfl, hn3⟩; replace hn3 := Aside0.mk hn3))
              clear hBe1 hBe2 hWo hn1 hn2
              go_wp2_with (first
                | (go_at_call 21; have hn9z := hn8.out; refine (hU3.out _).mono ?_; rintro e u9 ⟨rfl, hn9⟩; replace hn9 := Aside0.mk (below_step hn9z hn9.below); clear hn9z)
                | (go_at_call 23; have hn8z := hn7.out; refine (hK3.out _ hn7.out).mono ?_; rintro e u8 ⟨rfl, hn8⟩; replace hn8 := Aside0.mk (below_step hn8z hn8.below); clear hn8z)
                | (go_at_call 21; have hn7z := hn6.out; refine (hU2.out _).mono ?_; rintro e u7 ⟨rfl, hn7⟩; replace hn7 := Aside0.mk (below_step hn7z hn7.below); clear hn7z)
                | (go_at_call 22; have hn6z := hn5.out; refine (hK2.out _ hn5.out).mono ?_; rintro e u6 ⟨rfl, hn6⟩; replace hn6 := Aside0.mk (below_step hn6z hn6.below); clear hn6z)
                | (go_at_call 21; have hn5z := hn4.out; refine (hU1.out _).mono ?_; rintro e u5 ⟨rfl, hn5⟩; replace hn5 := Aside0.mk (below_step hn5z hn5.below); clear hn5z)
                | (go_at_call 22; have hn4z := hn3.out; refine (hK1.out _ hn3.out).mono ?_; rintro e u4 ⟨rfl, hn4⟩; replace hn4 := Aside0.mk (below_step hn4z hn4.below); clear hn4z))
              clear hK1 hK2 hK3 hU1 hU2 hU3 hn3 hn4 hn5 hn6 hn7 hn8
              go_loopg [23, 24] y.length (fun kq v23 v24 w' => ∃ (j : Nat), v23 = .int .i64 (rsum (y.take j)) ∧ v24 = .int .i64 (j : Int) ∧ Aside0 (j + kq = y.length) ∧ Aside0 (Below w6.heap.size w6 w'))
              case atStart => exact ⟨0, rfl, rfl, ⟨by omega⟩, hn9⟩
              case round =>
                clear hn9
                obtain ⟨j, rfl, rfl, HJ, HB⟩ := hrel
                cases gk with
                | zero =>
                  obtain rfl : j = y.length := by have := HJ.out; omega
                  have d8 : decide (((y.length : Nat) : Int) < ((y.length : Nat) : Int)) = false := decide_eq_false (by omega)
                  rw [List.take_length]
                  obtain ⟨rs, hrs⟩ : ∃ r, r = rsum y := ⟨_, rfl⟩
                  rw [← hrs] at hRo
                  rw [← hrs]
                  replace hrs := Aside0.mk hrs
                  go_wp2_with (go_at_call 18; refine (hRo.out _ HB.out).mono ?_; rintro e x1 ⟨rfl, hx1⟩; replace hx1 := Aside0.mk hx1)
                  clear hRo hCy hcy hoky HB
                  go_loopg [25] 7 (fun kq v25 w' => ∃ (g : Int), v25 = .int .i64 g ∧ Aside0 (g + (kq : Int) = 6 ∧ -1 ≤ g) ∧ Aside0 (Below w6.heap.size w6 w'))
                  case atStart => exact ⟨-1, rfl, ⟨by omega, by omega⟩, hx1⟩
                  case round =>
                    clear hx1
                    obtain ⟨g, rfl, HG, HB⟩ := hrel
                    cases gk with
                    | zero =>
                      have eg : g = 6 := by have := HG.out; omega
                      subst eg
                      go_wp2
                      go_roundg k1
                      case measure => omega
                      case rel => exact ⟨i + 1, D5, l5, trivial, by rw [ws.out], ⟨by have := HK.out; omega, hl5.out⟩, ⟨HI6.out.below HB.out⟩⟩
                    | succ k4 =>
                      have dg : decide (g < 6) = true := decide_eq_true (by have := HG.out; omega)
                      have wg := Aside0.mk (show wrap64 (g + 1) = g + 1 from w64r _ (by have := HG.out; omega) (by have := HG.out; omega))
                      go_wp2
                      go_loopg [26, 27] l5.length (fun kq v26 v27 w' => ∃ (j : Nat), v26 = .int .i64 ((gcnt (l5.take j) g : Nat) : Int) ∧ v27 = .int .i64 (j : Int) ∧ Aside0 (j + kq = l5.length) ∧ Aside0 (Below w6.heap.size w6 w'))
                      case atStart => exact ⟨0, rfl, rfl, ⟨by omega⟩, HB⟩
                      case round =>
                        clear HB
                        obtain ⟨j, rfl, rfl, HJ, HB⟩ := hrel
                        cases gk with
                        | zero =>
                          obtain rfl : j = l5.length := by have := HJ.out; omega
                          have d8 : decide (((l5.length : Nat) : Int) < ((l5.length : Nat) : Int)) = false := decide_eq_false (by omega)
                          rw [List.take_length]
                          have hCg := Aside0.mk (hCn.out g _ HB.out)
                          obtain ⟨rs, hrs⟩ : ∃ r, r = ((gcnt l5 g : Nat) : Int) := ⟨_, rfl⟩
                          rw [← hrs] at hCg
                          rw [← hrs]
                          replace hrs := Aside0.mk hrs
                          go_wp2_with (go_at_call 13; refine hCg.out.mono ?_; rintro e x2 ⟨rfl, hx2⟩; replace hx2 := Aside0.mk hx2)
                          go_roundg k4
                          case measure => omega
                          case rel => exact ⟨g + 1, by rw [wg.out], ⟨by have := HG.out; omega, by have := HG.out; omega⟩, hx2⟩
                        | succ k5 =>
                          have hj : j < l5.length := by have := HJ.out; omega
                          have hj9 : j < l5.length := hj
                          have d5 : decide ((j : Int) < ((l5.length : Nat) : Int)) = true := decide_eq_true (by omega)
                          have d6 : decide (j < l5.length) = true := decide_eq_true hj
                          have j0 : (0 : Int) ≤ (j : Int) := by omega
                          obtain ⟨ad, eA, hcs⟩ := at3 hC5.out j hj
                          subst eA
                          have hgs := gcnt_step l5 g j hj
                          have hok := hok5.out _ (List.getElem_mem hj)
                          generalize l5[j] = h at hcs hgs hok
                          obtain ⟨c0, c1', c2⟩ := hcs _ HB.out
                          have hO := Aside0.mk (fun w => refof_calls h.f1 h.f2 (by unfold small; omega) w)
                          have wj := Aside0.mk (w64s j (by have := hl5'.out; omega))
                          have hcl : gcnt (l5.take j) g ≤ l5.length := Nat.le_trans List.countP_le_length (by rw [List.length_take]; omega)
                          have wc := Aside0.mk (w64s (gcnt (l5.take j) g) (by have := hl5'.out; omega))
                          obtain ⟨z, hz⟩ : ∃ z, z = ofR h.f1 h.f2 := ⟨_, rfl⟩
                          rw [← hz] at hO hgs
                          replace hcs := Aside0.mk hcs
                          replace hok := Aside0.mk hok
                          replace hz := Aside0.mk hz
                          generalize gcnt (l5.take j) g = q at *
                          replace hcl := Aside0.mk hcl
                          by_cases hzg : z = g
                          · have b1 : (z == g) = true := beq_iff_eq.mpr hzg
                            rw [if_pos hzg] at hgs
                            replace hgs := Aside0.mk hgs
                            clear hzg
                            go_upto_region 42 with fail
                            go_quiet (first | (go_at_call 9; (with_reducible refine (hO.out _).mono ?_); rintro e w' ⟨rfl, ⟨nd, rfl⟩⟩; exact ⟨rfl, _, World.drewN_drewN _ _ _⟩))
                            go_wp2
                            go_roundg k5
                            case measure => omega
                            case rel => exact ⟨j + 1, by rw [wc.out, hgs.out], by rw [wj.out], ⟨by have := HJ.out; omega⟩, ⟨pw_below_drewN HB.out _⟩⟩
                          · have b1 : (z == g) = false := beq_eq_false_iff_ne.mpr hzg
                            rw [if_neg hzg] at hgs
                            replace hgs := Aside0.mk hgs
                            clear hzg
                            go_upto_region 42 with fail
                            go_quiet (first | (go_at_call 9; (with_reducible refine (hO.out _).mono ?_); rintro e w' ⟨rfl, ⟨nd, rfl⟩⟩; exact ⟨rfl, _, World.drewN_drewN _ _ _⟩))
                            go_wp2
                            go_roundg k5
                            case measure => omega
                            case rel => exact ⟨j + 1, by rw [hgs.out], by rw [wj.out], ⟨by have := HJ.out; omega⟩, ⟨pw_below_drewN HB.out _⟩⟩
                | succ k3 =>
                  have hj : j < y.length := by have := HJ.out; omega
                  have hj9 : j < y.length := hj
                  have d5 : decide ((j : Int) < ((y.length : Nat) : Int)) = true := decide_eq_true (by omega)
                  have d6 : decide (j < y.length) = true := decide_eq_true hj
                  have j0 : (0 : Int) ≤ (j : Int) := by omega
                  obtain ⟨ad, eA, hcs⟩ := at3 hCy.out j hj
                  subst eA
                  have hst := rsum_step y j hj
                  have hok := hoky.out _ (List.getElem_mem hj)
                  have hrg := rsum_range (y.take j) (fun z hz => hoky.out z (List.mem_of_mem_take hz))
                  generalize y[j] = h at hcs hst hok
                  obtain ⟨c0, c1', c2⟩ := hcs _ HB.out
                  have wj := Aside0.mk (w64s j (by have := hly.out; omega))
                  have htl : (y.take j).length ≤ 60 := by rw [List.length_take]; have := hly.out; omega
                  have es : wrap64 (wrap64 (rsum (y.take j) + h.f2) - h.f1) = rsum (y.take j) + (h.f2 - h.f1) := by
                    rw [w64r (rsum (y.take j) + h.f2) (by omega) (by omega), w64r _ (by omega) (by omega)]
                    omega
                  rw [← hst] at es
                  replace es := Aside0.mk es
                  replace hst := Aside0.mk hst
                  replace hrg := Aside0.mk hrg
                  replace htl := Aside0.mk htl
                  replace hok := Aside0.mk hok
                  replace hcs := Aside0.mk hcs
                  go_upto_region 32 with fail
                  go_quiet (fail)
                  go_wp2
                  go_roundg k3
                  case measure => omega
                  case rel => exact ⟨j + 1, by rw [es.out], by rw [wj.out], ⟨by have := HJ.out; omega⟩, ⟨pw_below_drewN HB.out _⟩⟩
            · have d7 : decide (x.f1 < 0) = false := decide_eq_false hneg
              obtain ⟨b, D5, l5, hP, hrel, hlen, hps⟩ := put_any HI3.out (by have := HK.out; have := h60.out; omega) (by have := HK.out; have := h60.out; omega) x (by omega)
              have hl5 := Aside0.mk (show l5.length ≤ i + 1 by have := HK.out; omega)
              obtain ⟨z0, z1, z2⟩ := hz
              replace hP := Aside0.mk hP
              replace hrel := Aside0.mk hrel
              replace hps := Aside0.mk hps
              replace hgm := Aside0.mk hgm
              clear hneg hu hm hlen
              go_upto_region 21 with (go_at_call 11; refine hP.out.mono ?_; rintro e w4 ⟨rfl, hB4, hf4⟩; replace hB4 := Aside0.mk hB4; replace hf4 := Aside0.mk hf4)
              have hx4 := Aside0.mk (x_far HI3.out.x hf4.out)
              have hb4 := Aside0.mk (far_below0 HI3.out.bel hf4.out HI3.out.lo.2)
              obtain ⟨t0, t1, t2⟩ := box_far hf4.out hgm.out ⟨z0, z1, z2⟩
              have hRD := Aside0.mk (rput_calls x l5 b hB4.out hx4.out hb4.out hps.out)
              clear z0 z1 z2 hf4 hP
              go_upto_region 22 with (go_at_call 12; refine hRD.out.mono ?_; rintro e w5 ⟨v5, rfl, hB5, hx5, hb5⟩; replace hB5 := Aside0.mk hB5; replace hx5 := Aside0.mk hx5; replace hb5 := Aside0.mk hb5)
              have HI5 := Aside0.mk (⟨hB5.out, hrel.out, hx5.out, hb5.out, HI3.out.lo⟩ : GI W bb mb v5 (i + 1) D5 l5 w5)
              clear hB5 hx5 hb5 hrel HI3 hRD hB4 hx4 hb4 t0 t1 t2 hps d7 hw0
              obtain ⟨A9, c9, e9⟩ := Kd.R_slice HI5.out.x
              subst e9
              have hr5 := Kd.R_reads' HI5.out.x
              have hl5' : l5.length ≤ 60 := by have := hl5.out; have := h60.out; have := HK.out; omega
              have hok5 : okL l5 := HI5.out.rel.ok
              have hBut := Aside0.mk (gunnyref18_But.calls _ A9 c9 l5 A1 c1 but (butL l5 but) w5 hr5.2.2 hr5.2.1 (Kd.C_below hC1.out HI5.out.bel) hc1.out (but_some l5 but (by have := hb20.out; omega) (by omega)))
              go_upto_region 23 with (go_at_call 20; refine hBut.out.mono ?_; rintro e w6 ⟨vB, rfl, hRB, hb6⟩; replace hRB := Aside0.mk hRB; replace hb6 := Aside0.mk hb6)
              clear hBut
              obtain ⟨AB, cB, eB⟩ := Kd.R_slice hRB.out
              subst eB
              have hyB := Kd.R_reads' hRB.out
              have HI6 := Aside0.mk (HI5.out.below hb6.out)
              have hC5 := Aside0.mk (Kd.C_below hr5.2.2 hb6.out)
              have hcB5 := Aside0.mk hr5.2.1
              have hCy := Aside0.mk hyB.2.2
              have hcy := Aside0.mk hyB.2.1
              have hi6 : i + 1 ≤ 100000 := by have := h60.out; have := HK.out; omega
              have hbl : but.length < 4611686018427387904 := by have := hb20.out; omega
              have hBe1 := fun (w : World) (k : Below w6.heap.size w6 w) => (best_calls bb mb (i + 1) D5 l5 A1 c1 but w (HI6.out.bk.below k) HI6.out.rel hi6 (by omega) (Kd.C_below hC1.out (below_step HI6.out.bel k)) hc1.out hbl).mono (fun e w' h => (⟨h.1, below_step k h.2⟩ : _ ∧ Below w6.heap.size w6 w'))
              have hBe2 := fun (w : World) (k : Below w6.heap.size w6 w) => (best_calls bb mb (i + 1) D5 l5 none 0 [] w (HI6.out.bk.below k) HI6.out.rel hi6 (by omega) (nilC w) (Nat.le_refl _) (by simp)).mono (fun e w' h => (⟨h.1, below_step k h.2⟩ : _ ∧ Below w6.heap.size w6 w'))
              have hWo := fun (w : World) (k : Below w6.heap.size w6 w) => (worst_calls bb mb (i + 1) D5 l5 w (HI6.out.bk.below k) HI6.out.rel hi6 (by omega)).mono (fun e w' h => (⟨h.1, below_step k h.2⟩ : _ ∧ Below w6.heap.size w6 w'))
              have hRo := fun (w : World) (k : Below w6.heap.size w6 w) => (room_calls bb mb (i + 1) D5 l5 A1 c1 but w (HI6.out.bk.below k) HI6.out.rel hi6 (by omega) (Kd.C_below hC1.out (below_step HI6.out.bel k)) hc1.out hbl).mono (fun e w' h => (⟨h.1, below_step k h.2⟩ : _ ∧ Below w6.heap.size w6 w'))
              have hCn := fun (g : Int) (w : World) (k : Below w6.heap.size w6 w) => (count_calls bb mb (i + 1) D5 l5 g w (HI6.out.bk.below k) HI6.out.rel hi6 (by omega)).mono (fun e w' h => (⟨h.1, below_step k h.2⟩ : _ ∧ Below w6.heap.size w6 w'))
              rw [room_eq HI6.out.rel.nd but] at hRo
              simp only [cnt_eq HI6.out.rel.nd] at hCn
              obtain ⟨r1, hr1, hq1⟩ := refbest_some (butL l5 but) (by have := butL_length l5 but; omega) (fun y hy => hok5 y (mem_butL.1 hy).1)
              obtain ⟨r2, hr2, hq2⟩ := refbest_some l5 (by omega) hok5
              obtain ⟨r3, hr3, hq3⟩ := refworst_some l5 (by omega) hok5
              have hT1 := told_best HI6.out.rel but _ (best_spec l5 (numL l5 but) (numL_rising HI6.out.rel.nd but)) r1 hq1
              have hT2 := told_best HI6.out.rel [] _ (best_spec l5 (numL l5 []) (numL_rising HI6.out.rel.nd [])) r2 (by rw [butL_nil]; exact hq2)
              have hT3 := told_worst HI6.out.rel _ (worst_spec l5 (numL l5 []) (numL_rising HI6.out.rel.nd [])) r3 hq3
              generalize bestF l5 (numL l5 but) (0, false) = s1 at hBe1 hT1
              generalize bestF l5 (numL l5 []) (0, false) = s2 at hBe2 hT2
              generalize worstF l5 (numL l5 []) (0, false) = s3 at hWo hT3
              obtain ⟨p1, o1⟩ := s1
              obtain ⟨p2, o2⟩ := s2
              obtain ⟨p3, o3⟩ := s3
              dsimp only at hBe1 hBe2 hWo hT1 hT2 hT3
              have hoky : okL (butL l5 but) := fun y hy => hok5 y (mem_butL.1 hy).1
              have hly : (butL l5 but).length ≤ 60 := Nat.le_trans (butL_length l5 but) hl5'
              have hK1 := Aside0.mk (fun (w : World) (k : Below w6.heap.size w6 w) => gunnyref18_Best.calls _ AB cB (butL l5 but) r1 w (Kd.C_below hCy.out k) hcy.out hr1)
              generalize butL l5 but = y at hCy hcy hRo hoky hly hK1 ⊢
              have hK2 := Aside0.mk (fun (w : World) (k : Below w6.heap.size w6 w) => gunnyref18_Best.calls _ A9 c9 l5 r2 w (Kd.C_below hC5.out k) hcB5.out hr2)
              have hK3 := Aside0.mk (fun (w : World) (k : Below w6.heap.size w6 w) => gunnyref18_Worst.calls _ A9 c9 l5 r3 w (Kd.C_below hC5.out k) hcB5.out hr3)
              have hU1 := Aside0.mk (fun w => gunnylaw18_told.calls p1 o1 r1 true w hT1)
              have hU2 := Aside0.mk (fun w => gunnylaw18_told.calls p2 o2 r2 true w hT2)
              have hU3 := Aside0.mk (fun w => gunnylaw18_told.calls p3 o3 r3 true w hT3)
              replace hBe1 := Aside0.mk hBe1
              replace hBe2 := Aside0.mk hBe2
              replace hWo := Aside0.mk hWo
              replace hRo := Aside0.mk hRo
              replace hCn := Aside0.mk hCn
              replace hok5 := Aside0.mk hok5
              replace hoky := Aside0.mk hoky
              replace hly := Aside0.mk hly
              replace hl5' := Aside0.mk hl5'
              clear hT1 hT2 hT3 hr1 hr2 hr3 hq1 hq2 hq3 hi6 hbl hyB hr5 HI5 hRB hb6
              go_upto_region 26 with (first
                | (go_at_call 14; refine (hBe2.out _ hn1.out).mono ?_; rintro e u2 ⟨rfl, hn2⟩; replace hn2 := Aside0.mk hn2)
                | (go_at_call 14; refine (hBe1.out _ (Below.refl _ _)).mono ?_; rintro e u1 ⟨rfl, hn1⟩; replace hn1 := Aside0.mk hn1)
                | (go_at_call 15; refine (hWo.out _ hn2.out).mono ?_; rintro e u3 ⟨rfl, hn3⟩; replace hn3 := Aside0.mk hn3))
              clear hBe1 hBe2 hWo hn1 hn2
              go_wp2_with (first
                | (go_at_call 21; have hn9z := hn8.out; refine (hU3.out _).mono ?_; rintro e u9 ⟨rfl, hn9⟩; replace hn9 := Aside0.mk (below_step hn9z hn9.below); clear hn9z)
                | (go_at_call 23; have hn8z := hn7.out; refine (hK3.out _ hn7.out).mono ?_; rintro e u8 ⟨rfl, hn8⟩; replace hn8 := Aside0.mk (below_step hn8z hn8.below); clear hn8z)
                | (go_at_call 21; have hn7z := hn6.out; refine (hU2.out _).mono ?_; rintro e u7 ⟨rfl, hn7⟩; replace hn7 := Aside0.mk (below_step hn7z hn7.below); clear hn7z)
                | (go_at_call 22; have hn6z := hn5.out; refine (hK2.out _ hn5.out).mono ?_; rintro e u6 ⟨rfl, hn6⟩; replace hn6 := Aside0.mk (below_step hn6z hn6.below); clear hn6z)
                | (go_at_call 21; have hn5z := hn4.out; refine (hU1.out _).mono ?_; rintro e u5 ⟨rfl, hn5⟩; replace hn5 := Aside0.mk (below_step hn5z hn5.below); clear hn5z)
                | (go_at_call 22; have hn4z := hn3.out; refine (hK1.out _ hn3.out).mono ?_; rintro e u4 ⟨rfl, hn4⟩; replace hn4 := Aside0.mk (below_step hn4z hn4.below); clear hn4z))
              clear hK1 hK2 hK3 hU1 hU2 hU3 hn3 hn4 hn5 hn6 hn7 hn8
              go_loopg [23, 24] y.length (fun kq v23 v24 w' => ∃ (j : Nat), v23 = .int .i64 (rsum (y.take j)) ∧ v24 = .int .i64 (j : Int) ∧ Aside0 (j + kq = y.length) ∧ Aside0 (Below w6.heap.size w6 w'))
              case atStart => exact ⟨0, rfl, rfl, ⟨by omega⟩, hn9⟩
              case round =>
                clear hn9
                obtain ⟨j, rfl, rfl, HJ, HB⟩ := hrel
                cases gk with
                | zero =>
                  obtain rfl : j = y.length := by have := HJ.out; omega
                  have d8 : decide (((y.length : Nat) : Int) < ((y.length : Nat) : Int)) = false := decide_eq_false (by omega)
                  rw [List.take_length]
                  obtain ⟨rs, hrs⟩ : ∃ r, r = rsum y := ⟨_, rfl⟩
                  rw [← hrs] at hRo
                  rw [← hrs]
                  replace hrs := Aside0.mk hrs
                  go_wp2_with (go_at_call 18; refine (hRo.out _ HB.out).mono ?_; rintro e x1 ⟨rfl, hx1⟩; replace hx1 := Aside0.mk hx1)
                  clear hRo hCy hcy hoky HB
                  go_loopg [25] 7 (fun kq v25 w' => ∃ (g : Int), v25 = .int .i64 g ∧ Aside0 (g + (kq : Int) = 6 ∧ -1 ≤ g) ∧ Aside0 (Below w6.heap.size w6 w'))
                  case atStart => exact ⟨-1, rfl, ⟨by omega, by omega⟩, hx1⟩
                  case round =>
                    clear hx1
                    obtain ⟨g, rfl, HG, HB⟩ := hrel
                    cases gk with
                    | zero =>
                      have eg : g = 6 := by have := HG.out; omega
                      subst eg
                      go_wp2
                      go_roundg k1
                      case measure => omega
                      case rel => exact ⟨i + 1, D5, l5, trivial, by rw [ws.out], ⟨by have := HK.out; omega, hl5.out⟩, ⟨HI6.out.below HB.out⟩⟩
                    | succ k4 =>
                      have dg : decide (g < 6) = true := decide_eq_true (by have := HG.out; omega)
                      have wg := Aside0.mk (show wrap64 (g + 1) = g + 1 from w64r _ (by have := HG.out; omega) (by have := HG.out; omega))
                      go_wp2
                      go_loopg [26, 27] l5.length (fun kq v26 v27 w' => ∃ (j : Nat), v26 = .int .i64 ((gcnt (l5.take j) g : Nat) : Int) ∧ v27 = .int .i64 (j : Int) ∧ Aside0 (j + kq = l5.length) ∧ Aside0 (Below w6.heap.size w6 w'))
                      case atStart => exact ⟨0, rfl, rfl, ⟨by omega⟩, HB⟩
                      case round =>
                        clear HB
                        obtain ⟨j, rfl, rfl, HJ, HB⟩ := hrel
                        cases gk with
                        | zero =>
                          obtain rfl : j = l5.length := by have := HJ.out; omega
                          have d8 : decide (((l5.length : Nat) : Int) < ((l5.length : Nat) : Int)) = false := decide_eq_false (by omega)
                          rw [List.take_length]
                          have hCg := Aside0.mk (hCn.out g _ HB.out)
                          obtain ⟨rs, hrs⟩ : ∃ r, r = ((gcnt l5 g : Nat) : Int) := ⟨_, rfl⟩
                          rw [← hrs] at hCg
                          rw [← hrs]
                          replace hrs := Aside0.mk hrs
                          go_wp2_with (go_at_call 13; refine hCg.out.mono ?_; rintro e x2 ⟨rfl, hx2⟩; replace hx2 := Aside0.mk hx2)
                          go_roundg k4
                          case measure => omega
                          case rel => exact ⟨g + 1, by rw [wg.out], ⟨by have := HG.out; omega, by have := HG.out; omega⟩, hx2⟩
                        | succ k5 =>
                          have hj : j < l5.length := by have := HJ.out; omega
                          have hj9 : j < l5.length := hj
                          have d5 : decide ((j : Int) < ((l5.length : Nat) : Int)) = true := decide_eq_true (by omega)
                          have d6 : decide (j < l5.length) = true := decide_eq_true hj
                          have j0 : (0 : Int) ≤ (j : Int) := by omega
                          obtain ⟨ad, eA, hcs⟩ := at3 hC5.out j hj
                          subst eA
                          have hgs := gcnt_step l5 g j hj
                          have hok := hok5.out _ (List.getElem_mem hj)
                          generalize l5[j] = h at hcs hgs hok
                          obtain ⟨c0, c1', c2⟩ := hcs _ HB.out
                          have hO := Aside0.mk (fun w => refof_calls h.f1 h.f2 (by unfold small; omega) w)
                          have wj := Aside0.mk (w64s j (by have := hl5'.out; omega))
                          have hcl : gcnt (l5.take j) g ≤ l5.length := Nat.le_trans List.countP_le_length (by rw [List.length_take]; omega)
                          have wc := Aside0.mk (w64s (gcnt (l5.take j) g) (by have := hl5'.out; omega))
                          obtain ⟨z, hz⟩ : ∃ z, z = ofR h.f1 h.f2 := ⟨_, rfl⟩
                          rw [← hz] at hO hgs
                          replace hcs := Aside0.mk hcs
                          replace hok := Aside0.mk hok
                          replace hz := Aside0.mk hz
                          generalize gcnt (l5.take j) g = q at *
                          replace hcl := Aside0.mk hcl
                          by_cases hzg : z = g
                          · have b1 : (z == g) = true := beq_iff_eq.mpr hzg
                            rw [if_pos hzg] at hgs
                            replace hgs := Aside0.mk hgs
                            clear hzg
                            go_upto_region 42 with fail
                            go_quiet (first | (go_at_call 9; (with_reducible refine (hO.out _).mono ?_); rintro e w' ⟨rfl, ⟨nd, rfl⟩⟩; exact ⟨rfl, _, World.drewN_drewN _ _ _⟩))
                            go_wp2
                            go_roundg k5
                            case measure => omega
                            case rel => exact ⟨j + 1, by rw [wc.out, hgs.out], by rw [wj.out], ⟨by have := HJ.out; omega⟩, ⟨pw_below_drewN HB.out _⟩⟩
                          · have b1 : (z == g) = false := beq_eq_false_iff_ne.mpr hzg
                            rw [if_neg hzg] at hgs
                            replace hgs := Aside0.mk hgs
                            clear hzg
                            go_upto_region 42 with fail
                            go_quiet (first | (go_at_call 9; (with_reducible refine (hO.out _).mono ?_); rintro e w' ⟨rfl, ⟨nd, rfl⟩⟩; exact ⟨rfl, _, World.drewN_drewN _ _ _⟩))
                            go_wp2
                            go_roundg k5
                            case measure => omega
                            case rel => exact ⟨j + 1, by rw [hgs.out], by rw [wj.out], ⟨by have := HJ.out; omega⟩, ⟨pw_below_drewN HB.out _⟩⟩
                | succ k3 =>
                  have hj : j < y.length := by have := HJ.out; omega
                  have hj9 : j < y.length := hj
                  have d5 : decide ((j : Int) < ((y.length : Nat) : Int)) = true := decide_eq_true (by omega)
                  have d6 : decide (j < y.length) = true := decide_eq_true hj
                  have j0 : (0 : Int) ≤ (j : Int) := by omega
                  obtain ⟨ad, eA, hcs⟩ := at3 hCy.out j hj
                  subst eA
                  have hst := rsum_step y j hj
                  have hok := hoky.out _ (List.getElem_mem hj)
                  have hrg := rsum_range (y.take j) (fun z hz => hoky.out z (List.mem_of_mem_take hz))
                  generalize y[j] = h at hcs hst hok
                  obtain ⟨c0, c1', c2⟩ := hcs _ HB.out
                  have wj := Aside0.mk (w64s j (by have := hly.out; omega))
                  have htl : (y.take j).length ≤ 60 := by rw [List.length_take]; have := hly.out; omega
                  have es : wrap64 (wrap64 (rsum (y.take j) + h.f2) - h.f1) = rsum (y.take j) + (h.f2 - h.f1) := by
                    rw [w64r (rsum (y.take j) + h.f2) (by omega) (by omega), w64r _ (by omega) (by omega)]
                    omega
                  rw [← hst] at es
                  replace es := Aside0.mk es
                  replace hst := Aside0.mk hst
                  replace hrg := Aside0.mk hrg
                  replace htl := Aside0.mk htl
                  replace hok := Aside0.mk hok
                  replace hcs := Aside0.mk hcs
                  go_upto_region 32 with fail
                  go_quiet (fail)
                  go_wp2
                  go_roundg k3
                  case measure => omega
                  case rel => exact ⟨j + 1, by rw [es.out], by rw [wj.out], ⟨by have := HJ.out; omega⟩, ⟨pw_below_drewN HB.out _⟩⟩
end Go.Proofs.Ytoljebdicjiogaa.Hand
