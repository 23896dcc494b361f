/- ModelFits: walked (written by genC1.py). -/
import Derived.Test.YtgcgnpinhlmmjaaB0
import Derived.Test.YtgcgnpinhlmmjaaB2
import Derived.Test.YtgcgnpinhlmmjaaB3
import Derived.Deep.RegionHeld3
namespace Go.Proofs.Ytgcgnpinhlmmjaa.Hand
set_option linter.unusedVariables false
set_option linter.unusedSimpArgs false
open Go.RowKit Go.Maps Go.Proofs.Ytgcgnpinhlmmjaa.R Go.Proofs.Ytgcgnpinhlmmjaa.Va Go.Proofs.YtgcgnpinhlmmjaaW.PrintWords Go.Proofs.YtgcgnpinhlmmjaaW.PrintLast Go.Proofs.YtgcgnpinhlmmjaaW.PrintMore

set_option maxHeartbeats 64000000 in
set_option maxRecDepth 100000 in
theorem fits_law (o : S25) (A0 : Option Addr) (c0 : Nat) (we wn : Int) (A1 : Option Addr) (c1 : Nat) (wd : List Int) (ge gn : Int) (A2 : Option Addr) (c2 : Nat) (gd : List Int) (B0 : Option Addr) (d0 : Nat) (l0 : List S35) (B1 : Option Addr) (d1 : Nat) (l1 : List S35) (W : World)
    (h1 : Kd.C (Kd.int .u8) W A1 wd.length wd) (hc1 : wd.length ≤ c1) (h2 : Kd.C (Kd.int .u8) W A2 gd.length gd) (hc2 : gd.length ≤ c2) (h3 : Kd.C k35 W B0 l0.length l0) (hc3 : l0.length ≤ d0) (h4 : Kd.C k35 W B1 l1.length l1) (hc4 : l1.length ≤ d1) :
    Calls Try.prog 3 #[.agg #[.int .i64 o.f0, .int .i64 o.f1, .int .i64 o.f2, .int .u64 o.f3, .slice A0 o.f4.length c0], .agg #[.int .i64 we, .int .i64 wn, .slice A1 wd.length c1, .int .i64 ge, .int .i64 gn, .slice A2 gd.length c2], .agg #[.slice B0 l0.length d0, .slice B1 l1.length d1]] W fun e w' => e = .returned (.bool true) ∧ Below W.heap.size W w' := by
  have hb := below_alloc (below_alloc (below_alloc (Below.refl _ W) (.cells #[.int .i64 o.f0, .int .i64 o.f1, .int .i64 o.f2, .int .u64 o.f3, .slice A0 o.f4.length c0] 25 (0, 0))) (.cells #[.int .i64 we, .int .i64 wn, .slice A1 wd.length c1, .int .i64 ge, .int .i64 gn, .slice A2 gd.length c2] 30 (0, 0))) (.cells #[.slice B0 l0.length d0, .slice B1 l1.length d1] 32 (0, 0))
  have q0 := blk_alloc (blk_alloc (blk_new W (.cells #[.int .i64 o.f0, .int .i64 o.f1, .int .i64 o.f2, .int .u64 o.f3, .slice A0 o.f4.length c0] 25 (0, 0))) (.cells #[.int .i64 we, .int .i64 wn, .slice A1 wd.length c1, .int .i64 ge, .int .i64 gn, .slice A2 gd.length c2] 30 (0, 0))) (.cells #[.slice B0 l0.length d0, .slice B1 l1.length d1] 32 (0, 0))
  have q1 := blk_alloc (blk_new (W.alloc (.cells #[.int .i64 o.f0, .int .i64 o.f1, .int .i64 o.f2, .int .u64 o.f3, .slice A0 o.f4.length c0] 25 (0, 0))) (.cells #[.int .i64 we, .int .i64 wn, .slice A1 wd.length c1, .int .i64 ge, .int .i64 gn, .slice A2 gd.length c2] 30 (0, 0))) (.cells #[.slice B0 l0.length d0, .slice B1 l1.length d1] 32 (0, 0))
  have q2 := blk_new ((W.alloc (.cells #[.int .i64 o.f0, .int .i64 o.f1, .int .i64 o.f2, .int .u64 o.f3, .slice A0 o.f4.length c0] 25 (0, 0))).alloc (.cells #[.int .i64 we, .int .i64 wn, .slice A1 wd.length c1, .int .i64 ge, .int .i64 gn, .slice A2 gd.length c2] 30 (0, 0))) (.cells #[.slice B0 l0.length d0, .slice B1 l1.length d1] 32 (0, 0))
  rw [World.size_alloc] at q1
  rw [World.size_alloc, World.size_alloc] at q2
  have H1 := Kd.C_below h1 hb
  have H2 := Kd.C_below h2 hb
  have H3 := Kd.C_below h3 hb
  have H4 := Kd.C_below h4 hb
  replace hb := Aside0.mk hb
  replace hc1 := Aside0.mk hc1
  replace hc2 := Aside0.mk hc2
  replace hc3 := Aside0.mk hc3
  replace hc4 := Aside0.mk hc4
  clear h1 h2 h3 h4
  go_enter Try.func3, Try.ntmps3
  go_upto_region 1 with fail
  generalize ((W.alloc (.cells #[.int .i64 o.f0, .int .i64 o.f1, .int .i64 o.f2, .int .u64 o.f3, .slice A0 o.f4.length c0] 25 (0, 0))).alloc (.cells #[.int .i64 we, .int .i64 wn, .slice A1 wd.length c1, .int .i64 ge, .int .i64 gn, .slice A2 gd.length c2] 30 (0, 0))).alloc (.cells #[.slice B0 l0.length d0, .slice B1 l1.length d1] 32 (0, 0)) = w1 at *
  have hQ := Aside0.mk (fun (w' : World) (hW : Below w1.heap.size w1 w') => (⟨(blk_cell (blk_below q0 hW) 0).trans rfl, (blk_cell (blk_below q0 hW) 1).trans rfl, (blk_cell (blk_below q0 hW) 2).trans rfl, (blk_cell (blk_below q0 hW) 3).trans rfl, (blk_cell (blk_below q0 hW) 4).trans rfl, (blk_cell (blk_below q1 hW) 0).trans rfl, (blk_cell (blk_below q1 hW) 1).trans rfl, (blk_cell (blk_below q1 hW) 2).trans rfl, (blk_cell (blk_below q1 hW) 3).trans rfl, (blk_cell (blk_below q1 hW) 4).trans rfl, (blk_cell (blk_below q1 hW) 5).trans rfl, (blk_cell (blk_below q2 hW) 0).trans rfl, (blk_cell (blk_below q2 hW) 1).trans rfl⟩ : w'.cell? ⟨W.heap.size, 0, none⟩ = some (.int .i64 o.f0) ∧ w'.cell? ⟨W.heap.size, 1, none⟩ = some (.int .i64 o.f1) ∧ w'.cell? ⟨W.heap.size, 2, none⟩ = some (.int .i64 o.f2) ∧ w'.cell? ⟨W.heap.size, 3, none⟩ = some (.int .u64 o.f3) ∧ w'.cell? ⟨W.heap.size, 4, none⟩ = some (.slice A0 o.f4.length c0) ∧ w'.cell? ⟨W.heap.size + 1, 0, none⟩ = some (.int .i64 we) ∧ w'.cell? ⟨W.heap.size + 1, 1, none⟩ = some (.int .i64 wn) ∧ w'.cell? ⟨W.heap.size + 1, 2, none⟩ = some (.slice A1 wd.length c1) ∧ w'.cell? ⟨W.heap.size + 1, 3, none⟩ = some (.int .i64 ge) ∧ w'.cell? ⟨W.heap.size + 1, 4, none⟩ = some (.int .i64 gn) ∧ w'.cell? ⟨W.heap.size + 1, 5, none⟩ = some (.slice A2 gd.length c2) ∧ w'.cell? ⟨W.heap.size + 1 + 1, 0, none⟩ = some (.slice B0 l0.length d0) ∧ w'.cell? ⟨W.heap.size + 1 + 1, 1, none⟩ = some (.slice B1 l1.length d1)))
  replace H1 := Aside0.mk H1
  replace H2 := Aside0.mk H2
  replace H3 := Aside0.mk H3
  replace H4 := Aside0.mk H4
  clear q0 q1 q2
  obtain ⟨k0, k1, k2, k3, k4, k5, k6, k7, k8, k9, k10, k11, k12⟩ := hQ.out w1 (Below.refl _ _)
  by_cases g1 : wd.length > 100
  · have e1 : decide (((wd.length : Nat) : Int) > 100) = true := decide_eq_true (by omega)
    have e1' : decide (wd.length > 100) = true := decide_eq_true g1
    clear g1
    go_wp2_with (go_at_call 7; refine (lives_calls _).mono ?_; rintro e w9 ⟨rfl, hb9⟩; replace hb9 := Aside0.mk hb9)
    go_returns
    exact ⟨rfl, hb.out.trans (Below_low hb9.out hb.out.size)⟩
  have e1 : decide (((wd.length : Nat) : Int) > 100) = false := decide_eq_false (by omega)
  have e1' : decide (wd.length > 100) = false := decide_eq_false g1
  by_cases g2 : gd.length > 100
  · have e2 : decide (((gd.length : Nat) : Int) > 100) = true := decide_eq_true (by omega)
    have e2' : decide (gd.length > 100) = true := decide_eq_true g2
    clear g1 g2
    go_wp2_with (go_at_call 7; refine (lives_calls _).mono ?_; rintro e w9 ⟨rfl, hb9⟩; replace hb9 := Aside0.mk hb9)
    go_returns
    exact ⟨rfl, hb.out.trans (Below_low hb9.out hb.out.size)⟩
  have e2 : decide (((gd.length : Nat) : Int) > 100) = false := decide_eq_false (by omega)
  have e2' : decide (gd.length > 100) = false := decide_eq_false g2
  by_cases g3 : l0.length > 20
  · have e3 : decide (((l0.length : Nat) : Int) > 20) = true := decide_eq_true (by omega)
    have e3' : decide (l0.length > 20) = true := decide_eq_true g3
    clear g1 g2 g3
    go_wp2_with (go_at_call 7; refine (lives_calls _).mono ?_; rintro e w9 ⟨rfl, hb9⟩; replace hb9 := Aside0.mk hb9)
    go_returns
    exact ⟨rfl, hb.out.trans (Below_low hb9.out hb.out.size)⟩
  have e3 : decide (((l0.length : Nat) : Int) > 20) = false := decide_eq_false (by omega)
  have e3' : decide (l0.length > 20) = false := decide_eq_false g3
  by_cases g4 : l1.length > 20
  · have e4 : decide (((l1.length : Nat) : Int) > 20) = true := decide_eq_true (by omega)
    have e4' : decide (l1.length > 20) = true := decide_eq_true g4
    clear g1 g2 g3 g4
    go_wp2_with (go_at_call 7; refine (lives_calls _).mono ?_; rintro e w9 ⟨rfl, hb9⟩; replace hb9 := Aside0.mk hb9)
    go_returns
    exact ⟨rfl, hb.out.trans (Below_low hb9.out hb.out.size)⟩
  have e4 : decide (((l1.length : Nat) : Int) > 20) = false := decide_eq_false (by omega)
  have e4' : decide (l1.length > 20) = false := decide_eq_false g4
  replace g3 := Aside0.mk g3
  replace g4 := Aside0.mk g4
  clear g1 g2
  go_wp2
  go_loopg [7] l0.length (fun kq v7 w' => ∃ i : Nat, v7 = .int .i64 (i : Int) ∧ Aside0 (i + kq = l0.length) ∧ w' = w1)
  case atStart => exact ⟨0, rfl, ⟨by omega⟩, rfl⟩
  case round =>
    obtain ⟨i, rfl, HK, ew⟩ := hrel
    subst ew
    cases gk with
    | succ j1 =>
      have hi : i < l0.length := by have := HK.out; omega
      obtain ⟨ad, C1, f1, eA, x0, x1, x2, xl, x3⟩ := at35 H3.out i hi
      subst eA
      generalize rd_T35 l0 (i : Int) = x at *
      have s3 : decide ((i : Int) < (l0.length : Int)) = true := decide_eq_true (by omega)
      have s3' : decide (i < l0.length) = true := decide_eq_true hi
      have i0 : (0 : Int) ≤ (i : Int) := by omega
      have ws := Aside0.mk (w64s i (by have := g3.out; omega))
      clear x0 x1 xl x3
      by_cases g5 : x.f2.length > 5000
      · have e5 : decide (((x.f2.length : Nat) : Int) > 5000) = true := decide_eq_true (by omega)
        have e5' : decide (x.f2.length > 5000) = true := decide_eq_true g5
        clear g5
        go_wp2_with (go_at_call 7; refine (lives_calls _).mono ?_; rintro e w9 ⟨rfl, hb9⟩; replace hb9 := Aside0.mk hb9)
        go_returns
        exact ⟨rfl, hb.out.trans (Below_low hb9.out hb.out.size)⟩
      · have e5 : decide (((x.f2.length : Nat) : Int) > 5000) = false := decide_eq_false (by omega)
        have e5' : decide (x.f2.length > 5000) = false := decide_eq_false g5
        clear g5
        go_wp2
        go_roundg j1
        case measure => omega
        case rel => exact ⟨i + 1, (by first | rw [ws.out] | rfl), ⟨by have := HK.out; omega⟩, rfl⟩
    | zero =>
      obtain rfl : i = l0.length := by have := HK.out; omega
      have s3 : decide (((l0.length : Nat) : Int) < ((l0.length : Nat) : Int)) = false := decide_eq_false (by omega)
      go_wp2
      go_loopg [8] l1.length (fun kq v8 w' => ∃ i : Nat, v8 = .int .i64 (i : Int) ∧ Aside0 (i + kq = l1.length) ∧ w' = wr)
      case atStart => exact ⟨0, rfl, ⟨by omega⟩, rfl⟩
      case round =>
        obtain ⟨i, rfl, HK2, ew⟩ := hrel
        cases gk with
        | succ j1 =>
          subst ew
          have hi : i < l1.length := by have := HK2.out; omega
          obtain ⟨ad, C1, f1, eA, x0, x1, x2, xl, x3⟩ := at35 H4.out i hi
          subst eA
          generalize rd_T35 l1 (i : Int) = x at *
          have t3 : decide ((i : Int) < (l1.length : Int)) = true := decide_eq_true (by omega)
          have t3' : decide (i < l1.length) = true := decide_eq_true hi
          have i0 : (0 : Int) ≤ (i : Int) := by omega
          have ws := Aside0.mk (w64s i (by have := g4.out; omega))
          clear x0 x1 xl x3
          by_cases g5 : x.f2.length > 5000
          · have e5 : decide (((x.f2.length : Nat) : Int) > 5000) = true := decide_eq_true (by omega)
            have e5' : decide (x.f2.length > 5000) = true := decide_eq_true g5
            clear g5
            go_wp2_with (go_at_call 7; refine (lives_calls _).mono ?_; rintro e w9 ⟨rfl, hb9⟩; replace hb9 := Aside0.mk hb9)
            go_returns
            exact ⟨rfl, hb.out.trans (Below_low hb9.out hb.out.size)⟩
          · have e5 : decide (((x.f2.length : Nat) : Int) > 5000) = false := decide_eq_false (by omega)
            have e5' : decide (x.f2.length > 5000) = false := decide_eq_false g5
            clear g5
            go_wp2
            go_roundg j1
            case measure => omega
            case rel => exact ⟨i + 1, (by first | rw [ws.out] | rfl), ⟨by have := HK2.out; omega⟩, rfl⟩
        | zero =>
          subst ew
          obtain rfl : i = l1.length := by have := HK2.out; omega
          have t3 : decide (((l1.length : Nat) : Int) < ((l1.length : Nat) : Int)) = false := decide_eq_false (by omega)
          go_upto_region 13 with fail
          generalize hw : wr = wq at *
          have hF := Aside0.mk (fun (w' : World) (hW : Below wq.heap.size wq w') => fits_calls o.f0 o.f1 o.f2 o.f3 A0 o.f4.length c0 we wn A1 c1 wd ge gn A2 c2 gd w' (Kd.C_below H1.out hW) hc1.out (Kd.C_below H2.out hW) hc2.out)
          have hG := Aside0.mk (fun (w' : World) (hW : Below wq.heap.size wq w') => rfits_calls o.f0 o.f1 o.f2 o.f3 A0 o.f4.length c0 we wn A1 c1 wd ge gn A2 c2 gd w' (Kd.C_below H1.out hW) hc1.out (Kd.C_below H2.out hW) hc2.out)
          have hS1 := Aside0.mk (fun (w' : World) (hW : Below wq.heap.size wq w') => same_calls l0 l1 B0 d0 B1 d1 w' (Kd.C_below H3.out hW) (Kd.C_below H4.out hW) (by have := g3.out; omega))
          have hS2 := Aside0.mk (fun (w' : World) (hW : Below wq.heap.size wq w') => (rsame_calls l0 l1 B0 d0 B1 d1 w' (Kd.C_below H3.out hW) hc3.out (Kd.C_below H4.out hW) hc4.out (by have := g3.out; omega)).mono (fun e w2 h => (⟨h.1, h.2.below⟩ : _ ∧ Below w'.heap.size w' w2)))
          have hS3 := Aside0.mk (fun (w' : World) (hW : Below wq.heap.size wq w') => same_calls l0 l0 B0 d0 B0 d0 w' (Kd.C_below H3.out hW) (Kd.C_below H3.out hW) (by have := g3.out; omega))
          have hL := Aside0.mk (fun (w' : World) (hW : Below wq.heap.size wq w') => lives_calls w')
          rw [sameB_refl] at hS3
          generalize fitsB o.f0 we wn wd ge gn gd = fb at hF hG
          generalize sameB l0 l1 = sb at hS1 hS2
          have ff : (fb == fb) = true := by simp
          have ss : (sb == sb) = true := by simp
          clear hw H1 H2 H3 H4 e1 e1' e2 e2' e3 e3' e4 e4' s3 t3
          go_region_held3 (fun w' => w'.cell? ⟨W.heap.size, 0, none⟩ = some (.int .i64 o.f0) ∧ w'.cell? ⟨W.heap.size, 1, none⟩ = some (.int .i64 o.f1) ∧ w'.cell? ⟨W.heap.size, 2, none⟩ = some (.int .i64 o.f2) ∧ w'.cell? ⟨W.heap.size, 3, none⟩ = some (.int .u64 o.f3) ∧ w'.cell? ⟨W.heap.size, 4, none⟩ = some (.slice A0 o.f4.length c0) ∧ w'.cell? ⟨W.heap.size + 1, 0, none⟩ = some (.int .i64 we) ∧ w'.cell? ⟨W.heap.size + 1, 1, none⟩ = some (.int .i64 wn) ∧ w'.cell? ⟨W.heap.size + 1, 2, none⟩ = some (.slice A1 wd.length c1) ∧ w'.cell? ⟨W.heap.size + 1, 3, none⟩ = some (.int .i64 ge) ∧ w'.cell? ⟨W.heap.size + 1, 4, none⟩ = some (.int .i64 gn) ∧ w'.cell? ⟨W.heap.size + 1, 5, none⟩ = some (.slice A2 gd.length c2) ∧ w'.cell? ⟨W.heap.size + 1 + 1, 0, none⟩ = some (.slice B0 l0.length d0) ∧ w'.cell? ⟨W.heap.size + 1 + 1, 1, none⟩ = some (.slice B1 l1.length d1))
            (first | (exact hQ.out _ (below_drew1 (Below.refl _ _))) | exact hQ.out _ h6.out | exact hQ.out _ h5.out | exact hQ.out _ h4.out | exact hQ.out _ h3.out | exact hQ.out _ h2.out | exact hQ.out _ h1.out | go_keep)
            (first
              | (go_at_call 7; refine (hL.out _ (show Below wq.heap.size wq _ from by repeat (first | exact h5.out | refine pw_below_drewN ?_ _ | refine below_drew1 ?_))).mono ?_; rintro e w6 ⟨rfl, h6⟩; have g6 := below_step (show Below wq.heap.size wq _ from by repeat (first | exact h5.out | refine pw_below_drewN ?_ _ | refine below_drew1 ?_)) h6; replace h6 := Aside0.mk g6; clear g6)
              | (go_at_call 10; refine (hS3.out _ (show Below wq.heap.size wq _ from by repeat (first | exact h4.out | refine pw_below_drewN ?_ _ | refine below_drew1 ?_))).mono ?_; rintro e w5 ⟨rfl, h5⟩; have g5 := below_step (show Below wq.heap.size wq _ from by repeat (first | exact h4.out | refine pw_below_drewN ?_ _ | refine below_drew1 ?_)) h5; replace h5 := Aside0.mk g5; clear g5)
              | (go_at_call 11; refine (hS2.out _ (show Below wq.heap.size wq _ from by repeat (first | exact h3.out | refine pw_below_drewN ?_ _ | refine below_drew1 ?_))).mono ?_; rintro e w4 ⟨rfl, h4⟩; have g4 := below_step (show Below wq.heap.size wq _ from by repeat (first | exact h3.out | refine pw_below_drewN ?_ _ | refine below_drew1 ?_)) h4; replace h4 := Aside0.mk g4; clear g4)
              | (go_at_call 10; refine (hS1.out _ (show Below wq.heap.size wq _ from by repeat (first | exact h2.out | refine pw_below_drewN ?_ _ | refine below_drew1 ?_))).mono ?_; rintro e w3 ⟨rfl, h3⟩; have g3 := below_step (show Below wq.heap.size wq _ from by repeat (first | exact h2.out | refine pw_below_drewN ?_ _ | refine below_drew1 ?_)) h3; replace h3 := Aside0.mk g3; clear g3)
              | (go_at_call 9; refine (hG.out _ (show Below wq.heap.size wq _ from by repeat (first | exact h1.out | refine pw_below_drewN ?_ _ | refine below_drew1 ?_))).mono ?_; rintro e w2 ⟨rfl, h2⟩; have g2 := below_step (show Below wq.heap.size wq _ from by repeat (first | exact h1.out | refine pw_below_drewN ?_ _ | refine below_drew1 ?_)) h2; replace h2 := Aside0.mk g2; clear g2)
              | (go_at_call 8; refine (hF.out _ (show Below wq.heap.size wq _ from by repeat (first | exact Below.refl _ _ | refine pw_below_drewN ?_ _ | refine below_drew1 ?_))).mono ?_; rintro e w1 ⟨rfl, h1⟩; have g1 := below_step (show Below wq.heap.size wq _ from by repeat (first | exact Below.refl _ _ | refine pw_below_drewN ?_ _ | refine below_drew1 ?_)) h1; replace h1 := Aside0.mk g1; clear g1))
          go_wp2
          go_returns
          exact ⟨rfl, hb.out.trans (Below_low h6.out hb.out.size)⟩
end Go.Proofs.Ytgcgnpinhlmmjaa.Hand
