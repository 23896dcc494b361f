/- Fits, and the document's Fits: walked, way by way (written by genB1.py). -/
import Derived.Test.YtgcgnpinhlmmjaaAA
import Derived.Test.YtgcgnpinhlmmjaaRx2
namespace Go.Proofs.Ytgcgnpinhlmmjaa.Hand
set_option linter.unusedVariables false
set_option linter.unusedSimpArgs false
open Go.RowKit Go.Maps Go.Proofs.Ytgcgnpinhlmmjaa.R Go.Proofs.Ytgcgnpinhlmmjaa.Va Go.Proofs.YtgcgnpinhlmmjaaW.PrintWords Go.Proofs.YtgcgnpinhlmmjaaW.PrintLast Go.Proofs.YtgcgnpinhlmmjaaW.PrintMore

def refusB (k : Int) : Bool := decide (k = 0 ∨ k = 3 ∨ k = 5 ∨ k = 4 ∨ k = 6 ∨ k = 8 ∨ k = 9)
def countB (k : Int) : Bool := decide (k = 6 ∨ k = 7 ∨ k = 8 ∨ k = 9)
theorem refus_some (k : Int) : model_refusable.f k = some (refusB k) := by
  unfold model_refusable.f refusB
  repeat (first | rfl | (split; (rw [decide_eq_true (by omega)])) | (rw [decide_eq_false (by omega)]))
theorem count_some (k : Int) : model_counted.f k = some (countB k) := by
  unfold model_counted.f countB
  by_cases h6 : k = 6
  · rw [if_pos h6, decide_eq_true (by omega)]
  rw [if_neg h6]
  by_cases h7 : k = 7
  · rw [if_pos h7, decide_eq_true (by omega)]
  rw [if_neg h7]
  by_cases h8 : k = 8
  · rw [if_pos h8, decide_eq_true (by omega)]
  rw [if_neg h8]
  by_cases h9 : k = 9
  · rw [beq_iff_eq.mpr h9, decide_eq_true (by omega)]
  · rw [beq_eq_false_iff_ne.mpr h9, decide_eq_false (by omega)]
/-- May a memory answer so? -/
def fitsB (k we wn : Int) (wd : List Int) (ge gn : Int) (gd : List Int) : Bool :=
  if we = 0 ∧ (ge = 11 ∨ ge = 12) then refusB k && decide (gd.length = 0) else (we == ge) && ((strOfNums wd).toList == (strOfNums gd).toList) && ((wn == gn) || countB k)
def C25 (k p n a : Int) (A : Option Addr) (l c : Nat) : Obj := .cells #[.int .i64 k, .int .i64 p, .int .i64 n, .int .u64 a, .slice A l c] 25 (0, 0)
def C28 (e n : Int) (A : Option Addr) (l c : Nat) : Obj := .cells #[.int .i64 e, .int .i64 n, .slice A l c] 28 (0, 0)

set_option maxHeartbeats 8000000 in
set_option maxRecDepth 100000 in
theorem fits_ref_true_a (k p n a : Int) (A : Option Addr) (l c : Nat) (we wn : Int) (A1 : Option Addr) (c1 : Nat) (wd : List Int) (ge gn : Int) (A2 : Option Addr) (c2 : Nat) (gd : List Int) (r : Bool) (w : World) (h1 : Kd.C (Kd.int .u8) w A1 wd.length wd) (hc1 : wd.length ≤ c1) (h2 : Kd.C (Kd.int .u8) w A2 gd.length gd) (hc2 : gd.length ≤ c2)
    (hw : (we == 0) = true) (hg : (ge == 11) = true) (hr : refusB k = true) (hl : decide (gd.length = 0) = true) :
    Calls Try.prog 8 #[.agg #[.int .i64 k, .int .i64 p, .int .i64 n, .int .u64 a, .slice A l c], .agg #[.int .i64 we, .int .i64 wn, .slice A1 wd.length c1], .agg #[.int .i64 ge, .int .i64 gn, .slice A2 gd.length c2]] w fun e w' => e = .returned (.bool true) ∧ Below w.heap.size w w' := by
  have hb := below_alloc (below_alloc (below_alloc (Below.refl _ w) (C25 k p n a A l c)) (C28 we wn A1 wd.length c1)) (C28 ge gn A2 gd.length c2)
  have q0 := blk_alloc (blk_alloc (blk_new w (C25 k p n a A l c)) (C28 we wn A1 wd.length c1)) (C28 ge gn A2 gd.length c2)
  have q1 := blk_alloc (blk_new (w.alloc (C25 k p n a A l c)) (C28 we wn A1 wd.length c1)) (C28 ge gn A2 gd.length c2)
  have q2 := blk_new ((w.alloc (C25 k p n a A l c)).alloc (C28 we wn A1 wd.length c1)) (C28 ge gn A2 gd.length c2)
  rw [World.size_alloc] at q1
  rw [World.size_alloc, World.size_alloc] at q2
  have H1 := Kd.C_below h1 hb
  have H2 := Kd.C_below h2 hb
  unfold C25 C28 at hb q0 q1 q2 H1 H2
  replace hb := Aside0.mk hb
  clear h1 h2
  go_enter Try.func8, Try.ntmps8
  go_upto_region 1 with fail
  generalize ((w.alloc (.cells #[.int .i64 k, .int .i64 p, .int .i64 n, .int .u64 a, .slice A l c] 25 (0, 0))).alloc (.cells #[.int .i64 we, .int .i64 wn, .slice A1 wd.length c1] 28 (0, 0))).alloc (.cells #[.int .i64 ge, .int .i64 gn, .slice A2 gd.length c2] 28 (0, 0)) = w1 at *
  have k0 : w1.cell? ⟨w.heap.size, 0, none⟩ = some (.int .i64 k) := (blk_cell q0 0).trans rfl
  have y0 : w1.cell? ⟨w.heap.size + 1, 0, none⟩ = some (.int .i64 we) := (blk_cell q1 0).trans rfl
  have y1 : w1.cell? ⟨w.heap.size + 1, 1, none⟩ = some (.int .i64 wn) := (blk_cell q1 1).trans rfl
  have y2 : w1.cell? ⟨w.heap.size + 1, 2, none⟩ = some (.slice A1 wd.length c1) := (blk_cell q1 2).trans rfl
  have z0 : w1.cell? ⟨w.heap.size + 1 + 1, 0, none⟩ = some (.int .i64 ge) := (blk_cell q2 0).trans rfl
  have z1 : w1.cell? ⟨w.heap.size + 1 + 1, 1, none⟩ = some (.int .i64 gn) := (blk_cell q2 1).trans rfl
  have z2 : w1.cell? ⟨w.heap.size + 1 + 1, 2, none⟩ = some (.slice A2 gd.length c2) := (blk_cell q2 2).trans rfl
  have hr1 := Aside0.mk (fun (W : World) (hW : Below w1.heap.size w1 W) => (⟨(blk_cell (blk_below q0 hW) 0).trans rfl, (blk_cell (blk_below q1 hW) 1).trans rfl, (blk_cell (blk_below q2 hW) 1).trans rfl, (blk_cell (blk_below q2 hW) 2).trans rfl⟩ : W.cell? ⟨w.heap.size, 0, none⟩ = some (.int .i64 k) ∧ W.cell? ⟨w.heap.size + 1, 1, none⟩ = some (.int .i64 wn) ∧ W.cell? ⟨w.heap.size + 1 + 1, 1, none⟩ = some (.int .i64 gn) ∧ W.cell? ⟨w.heap.size + 1 + 1, 2, none⟩ = some (.slice A2 gd.length c2)))
  have hr2 := Aside0.mk (fun (W : World) (hW : Below w1.heap.size w1 W) => (⟨(blk_cell (blk_below q1 hW) 0).trans rfl, (blk_cell (blk_below q1 hW) 2).trans rfl, (blk_cell (blk_below q2 hW) 0).trans rfl⟩ : W.cell? ⟨w.heap.size + 1, 0, none⟩ = some (.int .i64 we) ∧ W.cell? ⟨w.heap.size + 1, 2, none⟩ = some (.slice A1 wd.length c1) ∧ W.cell? ⟨w.heap.size + 1 + 1, 0, none⟩ = some (.int .i64 ge)))
  clear q0 q1 q2
  have hC := Aside0.mk (fun W => model_refusable.calls k true W (by rw [refus_some, hr]))
  clear H1 H2 hc1 hc2 hr
  have b0 : (we == 0) = true := hw
  have b1 : (ge == 11) = true := hg
  have e0 : (((gd.length : Nat) : Int) == 0) = true := by
    rw [← hl, Bool.eq_iff_iff, decide_eq_true_iff, beq_iff_eq]
    omega
  have e1 : (gd.length == 0) = true := by
    rw [← hl, Bool.eq_iff_iff, decide_eq_true_iff, beq_iff_eq]
  clear hw hl
  generalize gd.length = gl at *
  go_wp2_with (go_at_call 24; refine (hC.out _).mono ?_; rintro e w3 ⟨rfl, hd⟩; obtain ⟨g0, g1, g2, g3⟩ := hr1.out _ hd.below; replace hd := Aside0.mk hd.below)
  go_returns
  exact ⟨by first | rfl | simp, hb.out.trans (Below_low hd.out hb.out.size)⟩

set_option maxHeartbeats 8000000 in
set_option maxRecDepth 100000 in
theorem fits_ref_false_a (k p n a : Int) (A : Option Addr) (l c : Nat) (we wn : Int) (A1 : Option Addr) (c1 : Nat) (wd : List Int) (ge gn : Int) (A2 : Option Addr) (c2 : Nat) (gd : List Int) (r : Bool) (w : World) (h1 : Kd.C (Kd.int .u8) w A1 wd.length wd) (hc1 : wd.length ≤ c1) (h2 : Kd.C (Kd.int .u8) w A2 gd.length gd) (hc2 : gd.length ≤ c2)
    (hw : (we == 0) = true) (hg : (ge == 11) = true) (hr : refusB k = true) (hl : decide (gd.length = 0) = false) :
    Calls Try.prog 8 #[.agg #[.int .i64 k, .int .i64 p, .int .i64 n, .int .u64 a, .slice A l c], .agg #[.int .i64 we, .int .i64 wn, .slice A1 wd.length c1], .agg #[.int .i64 ge, .int .i64 gn, .slice A2 gd.length c2]] w fun e w' => e = .returned (.bool false) ∧ Below w.heap.size w w' := by
  have hb := below_alloc (below_alloc (below_alloc (Below.refl _ w) (C25 k p n a A l c)) (C28 we wn A1 wd.length c1)) (C28 ge gn A2 gd.length c2)
  have q0 := blk_alloc (blk_alloc (blk_new w (C25 k p n a A l c)) (C28 we wn A1 wd.length c1)) (C28 ge gn A2 gd.length c2)
  have q1 := blk_alloc (blk_new (w.alloc (C25 k p n a A l c)) (C28 we wn A1 wd.length c1)) (C28 ge gn A2 gd.length c2)
  have q2 := blk_new ((w.alloc (C25 k p n a A l c)).alloc (C28 we wn A1 wd.length c1)) (C28 ge gn A2 gd.length c2)
  rw [World.size_alloc] at q1
  rw [World.size_alloc, World.size_alloc] at q2
  have H1 := Kd.C_below h1 hb
  have H2 := Kd.C_below h2 hb
  unfold C25 C28 at hb q0 q1 q2 H1 H2
  replace hb := Aside0.mk hb
  clear h1 h2
  go_enter Try.func8, Try.ntmps8
  go_upto_region 1 with fail
  generalize ((w.alloc (.cells #[.int .i64 k, .int .i64 p, .int .i64 n, .int .u64 a, .slice A l c] 25 (0, 0))).alloc (.cells #[.int .i64 we, .int .i64 wn, .slice A1 wd.length c1] 28 (0, 0))).alloc (.cells #[.int .i64 ge, .int .i64 gn, .slice A2 gd.length c2] 28 (0, 0)) = w1 at *
  have k0 : w1.cell? ⟨w.heap.size, 0, none⟩ = some (.int .i64 k) := (blk_cell q0 0).trans rfl
  have y0 : w1.cell? ⟨w.heap.size + 1, 0, none⟩ = some (.int .i64 we) := (blk_cell q1 0).trans rfl
  have y1 : w1.cell? ⟨w.heap.size + 1, 1, none⟩ = some (.int .i64 wn) := (blk_cell q1 1).trans rfl
  have y2 : w1.cell? ⟨w.heap.size + 1, 2, none⟩ = some (.slice A1 wd.length c1) := (blk_cell q1 2).trans rfl
  have z0 : w1.cell? ⟨w.heap.size + 1 + 1, 0, none⟩ = some (.int .i64 ge) := (blk_cell q2 0).trans rfl
  have z1 : w1.cell? ⟨w.heap.size + 1 + 1, 1, none⟩ = some (.int .i64 gn) := (blk_cell q2 1).trans rfl
  have z2 : w1.cell? ⟨w.heap.size + 1 + 1, 2, none⟩ = some (.slice A2 gd.length c2) := (blk_cell q2 2).trans rfl
  have hr1 := Aside0.mk (fun (W : World) (hW : Below w1.heap.size w1 W) => (⟨(blk_cell (blk_below q0 hW) 0).trans rfl, (blk_cell (blk_below q1 hW) 1).trans rfl, (blk_cell (blk_below q2 hW) 1).trans rfl, (blk_cell (blk_below q2 hW) 2).trans rfl⟩ : W.cell? ⟨w.heap.size, 0, none⟩ = some (.int .i64 k) ∧ W.cell? ⟨w.heap.size + 1, 1, none⟩ = some (.int .i64 wn) ∧ W.cell? ⟨w.heap.size + 1 + 1, 1, none⟩ = some (.int .i64 gn) ∧ W.cell? ⟨w.heap.size + 1 + 1, 2, none⟩ = some (.slice A2 gd.length c2)))
  have hr2 := Aside0.mk (fun (W : World) (hW : Below w1.heap.size w1 W) => (⟨(blk_cell (blk_below q1 hW) 0).trans rfl, (blk_cell (blk_below q1 hW) 2).trans rfl, (blk_cell (blk_below q2 hW) 0).trans rfl⟩ : W.cell? ⟨w.heap.size + 1, 0, none⟩ = some (.int .i64 we) ∧ W.cell? ⟨w.heap.size + 1, 2, none⟩ = some (.slice A1 wd.length c1) ∧ W.cell? ⟨w.heap.size + 1 + 1, 0, none⟩ = some (.int .i64 ge)))
  clear q0 q1 q2
  have hC := Aside0.mk (fun W => model_refusable.calls k true W (by rw [refus_some, hr]))
  clear H1 H2 hc1 hc2 hr
  have b0 : (we == 0) = true := hw
  have b1 : (ge == 11) = true := hg
  have e0 : (((gd.length : Nat) : Int) == 0) = false := by
    rw [← hl, Bool.eq_iff_iff, decide_eq_true_iff, beq_iff_eq]
    omega
  have e1 : (gd.length == 0) = false := by
    rw [← hl, Bool.eq_iff_iff, decide_eq_true_iff, beq_iff_eq]
  clear hw hl
  generalize gd.length = gl at *
  go_wp2_with (go_at_call 24; refine (hC.out _).mono ?_; rintro e w3 ⟨rfl, hd⟩; obtain ⟨g0, g1, g2, g3⟩ := hr1.out _ hd.below; replace hd := Aside0.mk hd.below)
  go_returns
  exact ⟨by first | rfl | simp, hb.out.trans (Below_low hd.out hb.out.size)⟩

set_option maxHeartbeats 8000000 in
set_option maxRecDepth 100000 in
theorem fits_ref_no_a (k p n a : Int) (A : Option Addr) (l c : Nat) (we wn : Int) (A1 : Option Addr) (c1 : Nat) (wd : List Int) (ge gn : Int) (A2 : Option Addr) (c2 : Nat) (gd : List Int) (r : Bool) (w : World) (h1 : Kd.C (Kd.int .u8) w A1 wd.length wd) (hc1 : wd.length ≤ c1) (h2 : Kd.C (Kd.int .u8) w A2 gd.length gd) (hc2 : gd.length ≤ c2)
    (hw : (we == 0) = true) (hg : (ge == 11) = true) (hr : refusB k = false) :
    Calls Try.prog 8 #[.agg #[.int .i64 k, .int .i64 p, .int .i64 n, .int .u64 a, .slice A l c], .agg #[.int .i64 we, .int .i64 wn, .slice A1 wd.length c1], .agg #[.int .i64 ge, .int .i64 gn, .slice A2 gd.length c2]] w fun e w' => e = .returned (.bool false) ∧ Below w.heap.size w w' := by
  have hb := below_alloc (below_alloc (below_alloc (Below.refl _ w) (C25 k p n a A l c)) (C28 we wn A1 wd.length c1)) (C28 ge gn A2 gd.length c2)
  have q0 := blk_alloc (blk_alloc (blk_new w (C25 k p n a A l c)) (C28 we wn A1 wd.length c1)) (C28 ge gn A2 gd.length c2)
  have q1 := blk_alloc (blk_new (w.alloc (C25 k p n a A l c)) (C28 we wn A1 wd.length c1)) (C28 ge gn A2 gd.length c2)
  have q2 := blk_new ((w.alloc (C25 k p n a A l c)).alloc (C28 we wn A1 wd.length c1)) (C28 ge gn A2 gd.length c2)
  rw [World.size_alloc] at q1
  rw [World.size_alloc, World.size_alloc] at q2
  have H1 := Kd.C_below h1 hb
  have H2 := Kd.C_below h2 hb
  unfold C25 C28 at hb q0 q1 q2 H1 H2
  replace hb := Aside0.mk hb
  clear h1 h2
  go_enter Try.func8, Try.ntmps8
  go_upto_region 1 with fail
  generalize ((w.alloc (.cells #[.int .i64 k, .int .i64 p, .int .i64 n, .int .u64 a, .slice A l c] 25 (0, 0))).alloc (.cells #[.int .i64 we, .int .i64 wn, .slice A1 wd.length c1] 28 (0, 0))).alloc (.cells #[.int .i64 ge, .int .i64 gn, .slice A2 gd.length c2] 28 (0, 0)) = w1 at *
  have k0 : w1.cell? ⟨w.heap.size, 0, none⟩ = some (.int .i64 k) := (blk_cell q0 0).trans rfl
  have y0 : w1.cell? ⟨w.heap.size + 1, 0, none⟩ = some (.int .i64 we) := (blk_cell q1 0).trans rfl
  have y1 : w1.cell? ⟨w.heap.size + 1, 1, none⟩ = some (.int .i64 wn) := (blk_cell q1 1).trans rfl
  have y2 : w1.cell? ⟨w.heap.size + 1, 2, none⟩ = some (.slice A1 wd.length c1) := (blk_cell q1 2).trans rfl
  have z0 : w1.cell? ⟨w.heap.size + 1 + 1, 0, none⟩ = some (.int .i64 ge) := (blk_cell q2 0).trans rfl
  have z1 : w1.cell? ⟨w.heap.size + 1 + 1, 1, none⟩ = some (.int .i64 gn) := (blk_cell q2 1).trans rfl
  have z2 : w1.cell? ⟨w.heap.size + 1 + 1, 2, none⟩ = some (.slice A2 gd.length c2) := (blk_cell q2 2).trans rfl
  have hr1 := Aside0.mk (fun (W : World) (hW : Below w1.heap.size w1 W) => (⟨(blk_cell (blk_below q0 hW) 0).trans rfl, (blk_cell (blk_below q1 hW) 1).trans rfl, (blk_cell (blk_below q2 hW) 1).trans rfl, (blk_cell (blk_below q2 hW) 2).trans rfl⟩ : W.cell? ⟨w.heap.size, 0, none⟩ = some (.int .i64 k) ∧ W.cell? ⟨w.heap.size + 1, 1, none⟩ = some (.int .i64 wn) ∧ W.cell? ⟨w.heap.size + 1 + 1, 1, none⟩ = some (.int .i64 gn) ∧ W.cell? ⟨w.heap.size + 1 + 1, 2, none⟩ = some (.slice A2 gd.length c2)))
  have hr2 := Aside0.mk (fun (W : World) (hW : Below w1.heap.size w1 W) => (⟨(blk_cell (blk_below q1 hW) 0).trans rfl, (blk_cell (blk_below q1 hW) 2).trans rfl, (blk_cell (blk_below q2 hW) 0).trans rfl⟩ : W.cell? ⟨w.heap.size + 1, 0, none⟩ = some (.int .i64 we) ∧ W.cell? ⟨w.heap.size + 1, 2, none⟩ = some (.slice A1 wd.length c1) ∧ W.cell? ⟨w.heap.size + 1 + 1, 0, none⟩ = some (.int .i64 ge)))
  clear q0 q1 q2
  have hC := Aside0.mk (fun W => model_refusable.calls k false W (by rw [refus_some, hr]))
  clear H1 H2 hc1 hc2 hr
  have b0 : (we == 0) = true := hw
  have b1 : (ge == 11) = true := hg
  clear hw
  go_wp2_with (go_at_call 24; refine (hC.out _).mono ?_; rintro e w3 ⟨rfl, hd⟩; obtain ⟨g0, g1, g2, g3⟩ := hr1.out _ hd.below; replace hd := Aside0.mk hd.below)
  go_returns
  exact ⟨rfl, hb.out.trans (Below_low hd.out hb.out.size)⟩

set_option maxHeartbeats 8000000 in
set_option maxRecDepth 100000 in
theorem fits_ref_true_b (k p n a : Int) (A : Option Addr) (l c : Nat) (we wn : Int) (A1 : Option Addr) (c1 : Nat) (wd : List Int) (ge gn : Int) (A2 : Option Addr) (c2 : Nat) (gd : List Int) (r : Bool) (w : World) (h1 : Kd.C (Kd.int .u8) w A1 wd.length wd) (hc1 : wd.length ≤ c1) (h2 : Kd.C (Kd.int .u8) w A2 gd.length gd) (hc2 : gd.length ≤ c2)
    (hw : (we == 0) = true) (hg1 : (ge == 11) = false) (hg : (ge == 12) = true) (hr : refusB k = true) (hl : decide (gd.length = 0) = true) :
    Calls Try.prog 8 #[.agg #[.int .i64 k, .int .i64 p, .int .i64 n, .int .u64 a, .slice A l c], .agg #[.int .i64 we, .int .i64 wn, .slice A1 wd.length c1], .agg #[.int .i64 ge, .int .i64 gn, .slice A2 gd.length c2]] w fun e w' => e = .returned (.bool true) ∧ Below w.heap.size w w' := by
  have hb := below_alloc (below_alloc (below_alloc (Below.refl _ w) (C25 k p n a A l c)) (C28 we wn A1 wd.length c1)) (C28 ge gn A2 gd.length c2)
  have q0 := blk_alloc (blk_alloc (blk_new w (C25 k p n a A l c)) (C28 we wn A1 wd.length c1)) (C28 ge gn A2 gd.length c2)
  have q1 := blk_alloc (blk_new (w.alloc (C25 k p n a A l c)) (C28 we wn A1 wd.length c1)) (C28 ge gn A2 gd.length c2)
  have q2 := blk_new ((w.alloc (C25 k p n a A l c)).alloc (C28 we wn A1 wd.length c1)) (C28 ge gn A2 gd.length c2)
  rw [World.size_alloc] at q1
  rw [World.size_alloc, World.size_alloc] at q2
  have H1 := Kd.C_below h1 hb
  have H2 := Kd.C_below h2 hb
  unfold C25 C28 at hb q0 q1 q2 H1 H2
  replace hb := Aside0.mk hb
  clear h1 h2
  go_enter Try.func8, Try.ntmps8
  go_upto_region 1 with fail
  generalize ((w.alloc (.cells #[.int .i64 k, .int .i64 p, .int .i64 n, .int .u64 a, .slice A l c] 25 (0, 0))).alloc (.cells #[.int .i64 we, .int .i64 wn, .slice A1 wd.length c1] 28 (0, 0))).alloc (.cells #[.int .i64 ge, .int .i64 gn, .slice A2 gd.length c2] 28 (0, 0)) = w1 at *
  have k0 : w1.cell? ⟨w.heap.size, 0, none⟩ = some (.int .i64 k) := (blk_cell q0 0).trans rfl
  have y0 : w1.cell? ⟨w.heap.size + 1, 0, none⟩ = some (.int .i64 we) := (blk_cell q1 0).trans rfl
  have y1 : w1.cell? ⟨w.heap.size + 1, 1, none⟩ = some (.int .i64 wn) := (blk_cell q1 1).trans rfl
  have y2 : w1.cell? ⟨w.heap.size + 1, 2, none⟩ = some (.slice A1 wd.length c1) := (blk_cell q1 2).trans rfl
  have z0 : w1.cell? ⟨w.heap.size + 1 + 1, 0, none⟩ = some (.int .i64 ge) := (blk_cell q2 0).trans rfl
  have z1 : w1.cell? ⟨w.heap.size + 1 + 1, 1, none⟩ = some (.int .i64 gn) := (blk_cell q2 1).trans rfl
  have z2 : w1.cell? ⟨w.heap.size + 1 + 1, 2, none⟩ = some (.slice A2 gd.length c2) := (blk_cell q2 2).trans rfl
  have hr1 := Aside0.mk (fun (W : World) (hW : Below w1.heap.size w1 W) => (⟨(blk_cell (blk_below q0 hW) 0).trans rfl, (blk_cell (blk_below q1 hW) 1).trans rfl, (blk_cell (blk_below q2 hW) 1).trans rfl, (blk_cell (blk_below q2 hW) 2).trans rfl⟩ : W.cell? ⟨w.heap.size, 0, none⟩ = some (.int .i64 k) ∧ W.cell? ⟨w.heap.size + 1, 1, none⟩ = some (.int .i64 wn) ∧ W.cell? ⟨w.heap.size + 1 + 1, 1, none⟩ = some (.int .i64 gn) ∧ W.cell? ⟨w.heap.size + 1 + 1, 2, none⟩ = some (.slice A2 gd.length c2)))
  have hr2 := Aside0.mk (fun (W : World) (hW : Below w1.heap.size w1 W) => (⟨(blk_cell (blk_below q1 hW) 0).trans rfl, (blk_cell (blk_below q1 hW) 2).trans rfl, (blk_cell (blk_below q2 hW) 0).trans rfl⟩ : W.cell? ⟨w.heap.size + 1, 0, none⟩ = some (.int .i64 we) ∧ W.cell? ⟨w.heap.size + 1, 2, none⟩ = some (.slice A1 wd.length c1) ∧ W.cell? ⟨w.heap.size + 1 + 1, 0, none⟩ = some (.int .i64 ge)))
  clear q0 q1 q2
  have hC := Aside0.mk (fun W => model_refusable.calls k true W (by rw [refus_some, hr]))
  clear H1 H2 hc1 hc2 hr
  have b0 : (we == 0) = true := hw
  have b1 : (ge == 11) = false := hg1
  have b2 : (ge == 12) = true := hg
  have e0 : (((gd.length : Nat) : Int) == 0) = true := by
    rw [← hl, Bool.eq_iff_iff, decide_eq_true_iff, beq_iff_eq]
    omega
  have e1 : (gd.length == 0) = true := by
    rw [← hl, Bool.eq_iff_iff, decide_eq_true_iff, beq_iff_eq]
  clear hw hl
  generalize gd.length = gl at *
  go_wp2_with (go_at_call 24; refine (hC.out _).mono ?_; rintro e w3 ⟨rfl, hd⟩; obtain ⟨g0, g1, g2, g3⟩ := hr1.out _ hd.below; replace hd := Aside0.mk hd.below)
  go_returns
  exact ⟨by first | rfl | simp, hb.out.trans (Below_low hd.out hb.out.size)⟩

set_option maxHeartbeats 8000000 in
set_option maxRecDepth 100000 in
theorem fits_ref_false_b (k p n a : Int) (A : Option Addr) (l c : Nat) (we wn : Int) (A1 : Option Addr) (c1 : Nat) (wd : List Int) (ge gn : Int) (A2 : Option Addr) (c2 : Nat) (gd : List Int) (r : Bool) (w : World) (h1 : Kd.C (Kd.int .u8) w A1 wd.length wd) (hc1 : wd.length ≤ c1) (h2 : Kd.C (Kd.int .u8) w A2 gd.length gd) (hc2 : gd.length ≤ c2)
    (hw : (we == 0) = true) (hg1 : (ge == 11) = false) (hg : (ge == 12) = true) (hr : refusB k = true) (hl : decide (gd.length = 0) = false) :
    Calls Try.prog 8 #[.agg #[.int .i64 k, .int .i64 p, .int .i64 n, .int .u64 a, .slice A l c], .agg #[.int .i64 we, .int .i64 wn, .slice A1 wd.length c1], .agg #[.int .i64 ge, .int .i64 gn, .slice A2 gd.length c2]] w fun e w' => e = .returned (.bool false) ∧ Below w.heap.size w w' := by
  have hb := below_alloc (below_alloc (below_alloc (Below.refl _ w) (C25 k p n a A l c)) (C28 we wn A1 wd.length c1)) (C28 ge gn A2 gd.length c2)
  have q0 := blk_alloc (blk_alloc (blk_new w (C25 k p n a A l c)) (C28 we wn A1 wd.length c1)) (C28 ge gn A2 gd.length c2)
  have q1 := blk_alloc (blk_new (w.alloc (C25 k p n a A l c)) (C28 we wn A1 wd.length c1)) (C28 ge gn A2 gd.length c2)
  have q2 := blk_new ((w.alloc (C25 k p n a A l c)).alloc (C28 we wn A1 wd.length c1)) (C28 ge gn A2 gd.length c2)
  rw [World.size_alloc] at q1
  rw [World.size_alloc, World.size_alloc] at q2
  have H1 := Kd.C_below h1 hb
  have H2 := Kd.C_below h2 hb
  unfold C25 C28 at hb q0 q1 q2 H1 H2
  replace hb := Aside0.mk hb
  clear h1 h2
  go_enter Try.func8, Try.ntmps8
  go_upto_region 1 with fail
  generalize ((w.alloc (.cells #[.int .i64 k, .int .i64 p, .int .i64 n, .int .u64 a, .slice A l c] 25 (0, 0))).alloc (.cells #[.int .i64 we, .int .i64 wn, .slice A1 wd.length c1] 28 (0, 0))).alloc (.cells #[.int .i64 ge, .int .i64 gn, .slice A2 gd.length c2] 28 (0, 0)) = w1 at *
  have k0 : w1.cell? ⟨w.heap.size, 0, none⟩ = some (.int .i64 k) := (blk_cell q0 0).trans rfl
  have y0 : w1.cell? ⟨w.heap.size + 1, 0, none⟩ = some (.int .i64 we) := (blk_cell q1 0).trans rfl
  have y1 : w1.cell? ⟨w.heap.size + 1, 1, none⟩ = some (.int .i64 wn) := (blk_cell q1 1).trans rfl
  have y2 : w1.cell? ⟨w.heap.size + 1, 2, none⟩ = some (.slice A1 wd.length c1) := (blk_cell q1 2).trans rfl
  have z0 : w1.cell? ⟨w.heap.size + 1 + 1, 0, none⟩ = some (.int .i64 ge) := (blk_cell q2 0).trans rfl
  have z1 : w1.cell? ⟨w.heap.size + 1 + 1, 1, none⟩ = some (.int .i64 gn) := (blk_cell q2 1).trans rfl
  have z2 : w1.cell? ⟨w.heap.size + 1 + 1, 2, none⟩ = some (.slice A2 gd.length c2) := (blk_cell q2 2).trans rfl
  have hr1 := Aside0.mk (fun (W : World) (hW : Below w1.heap.size w1 W) => (⟨(blk_cell (blk_below q0 hW) 0).trans rfl, (blk_cell (blk_below q1 hW) 1).trans rfl, (blk_cell (blk_below q2 hW) 1).trans rfl, (blk_cell (blk_below q2 hW) 2).trans rfl⟩ : W.cell? ⟨w.heap.size, 0, none⟩ = some (.int .i64 k) ∧ W.cell? ⟨w.heap.size + 1, 1, none⟩ = some (.int .i64 wn) ∧ W.cell? ⟨w.heap.size + 1 + 1, 1, none⟩ = some (.int .i64 gn) ∧ W.cell? ⟨w.heap.size + 1 + 1, 2, none⟩ = some (.slice A2 gd.length c2)))
  have hr2 := Aside0.mk (fun (W : World) (hW : Below w1.heap.size w1 W) => (⟨(blk_cell (blk_below q1 hW) 0).trans rfl, (blk_cell (blk_below q1 hW) 2).trans rfl, (blk_cell (blk_below q2 hW) 0).trans rfl⟩ : W.cell? ⟨w.heap.size + 1, 0, none⟩ = some (.int .i64 we) ∧ W.cell? ⟨w.heap.size + 1, 2, none⟩ = some (.slice A1 wd.length c1) ∧ W.cell? ⟨w.heap.size + 1 + 1, 0, none⟩ = some (.int .i64 ge)))
  clear q0 q1 q2
  have hC := Aside0.mk (fun W => model_refusable.calls k true W (by rw [refus_some, hr]))
  clear H1 H2 hc1 hc2 hr
  have b0 : (we == 0) = true := hw
  have b1 : (ge == 11) = false := hg1
  have b2 : (ge == 12) = true := hg
  have e0 : (((gd.length : Nat) : Int) == 0) = false := by
    rw [← hl, Bool.eq_iff_iff, decide_eq_true_iff, beq_iff_eq]
    omega
  have e1 : (gd.length == 0) = false := by
    rw [← hl, Bool.eq_iff_iff, decide_eq_true_iff, beq_iff_eq]
  clear hw hl
  generalize gd.length = gl at *
  go_wp2_with (go_at_call 24; refine (hC.out _).mono ?_; rintro e w3 ⟨rfl, hd⟩; obtain ⟨g0, g1, g2, g3⟩ := hr1.out _ hd.below; replace hd := Aside0.mk hd.below)
  go_returns
  exact ⟨by first | rfl | simp, hb.out.trans (Below_low hd.out hb.out.size)⟩

set_option maxHeartbeats 8000000 in
set_option maxRecDepth 100000 in
theorem fits_ref_no_b (k p n a : Int) (A : Option Addr) (l c : Nat) (we wn : Int) (A1 : Option Addr) (c1 : Nat) (wd : List Int) (ge gn : Int) (A2 : Option Addr) (c2 : Nat) (gd : List Int) (r : Bool) (w : World) (h1 : Kd.C (Kd.int .u8) w A1 wd.length wd) (hc1 : wd.length ≤ c1) (h2 : Kd.C (Kd.int .u8) w A2 gd.length gd) (hc2 : gd.length ≤ c2)
    (hw : (we == 0) = true) (hg1 : (ge == 11) = false) (hg : (ge == 12) = true) (hr : refusB k = false) :
    Calls Try.prog 8 #[.agg #[.int .i64 k, .int .i64 p, .int .i64 n, .int .u64 a, .slice A l c], .agg #[.int .i64 we, .int .i64 wn, .slice A1 wd.length c1], .agg #[.int .i64 ge, .int .i64 gn, .slice A2 gd.length c2]] w fun e w' => e = .returned (.bool false) ∧ Below w.heap.size w w' := by
  have hb := below_alloc (below_alloc (below_alloc (Below.refl _ w) (C25 k p n a A l c)) (C28 we wn A1 wd.length c1)) (C28 ge gn A2 gd.length c2)
  have q0 := blk_alloc (blk_alloc (blk_new w (C25 k p n a A l c)) (C28 we wn A1 wd.length c1)) (C28 ge gn A2 gd.length c2)
  have q1 := blk_alloc (blk_new (w.alloc (C25 k p n a A l c)) (C28 we wn A1 wd.length c1)) (C28 ge gn A2 gd.length c2)
  have q2 := blk_new ((w.alloc (C25 k p n a A l c)).alloc (C28 we wn A1 wd.length c1)) (C28 ge gn A2 gd.length c2)
  rw [World.size_alloc] at q1
  rw [World.size_alloc, World.size_alloc] at q2
  have H1 := Kd.C_below h1 hb
  have H2 := Kd.C_below h2 hb
  unfold C25 C28 at hb q0 q1 q2 H1 H2
  replace hb := Aside0.mk hb
  clear h1 h2
  go_enter Try.func8, Try.ntmps8
  go_upto_region 1 with fail
  generalize ((w.alloc (.cells #[.int .i64 k, .int .i64 p, .int .i64 n, .int .u64 a, .slice A l c] 25 (0, 0))).alloc (.cells #[.int .i64 we, .int .i64 wn, .slice A1 wd.length c1] 28 (0, 0))).alloc (.cells #[.int .i64 ge, .int .i64 gn, .slice A2 gd.length c2] 28 (0, 0)) = w1 at *
  have k0 : w1.cell? ⟨w.heap.size, 0, none⟩ = some (.int .i64 k) := (blk_cell q0 0).trans rfl
  have y0 : w1.cell? ⟨w.heap.size + 1, 0, none⟩ = some (.int .i64 we) := (blk_cell q1 0).trans rfl
  have y1 : w1.cell? ⟨w.heap.size + 1, 1, none⟩ = some (.int .i64 wn) := (blk_cell q1 1).trans rfl
  have y2 : w1.cell? ⟨w.heap.size + 1, 2, none⟩ = some (.slice A1 wd.length c1) := (blk_cell q1 2).trans rfl
  have z0 : w1.cell? ⟨w.heap.size + 1 + 1, 0, none⟩ = some (.int .i64 ge) := (blk_cell q2 0).trans rfl
  have z1 : w1.cell? ⟨w.heap.size + 1 + 1, 1, none⟩ = some (.int .i64 gn) := (blk_cell q2 1).trans rfl
  have z2 : w1.cell? ⟨w.heap.size + 1 + 1, 2, none⟩ = some (.slice A2 gd.length c2) := (blk_cell q2 2).trans rfl
  have hr1 := Aside0.mk (fun (W : World) (hW : Below w1.heap.size w1 W) => (⟨(blk_cell (blk_below q0 hW) 0).trans rfl, (blk_cell (blk_below q1 hW) 1).trans rfl, (blk_cell (blk_below q2 hW) 1).trans rfl, (blk_cell (blk_below q2 hW) 2).trans rfl⟩ : W.cell? ⟨w.heap.size, 0, none⟩ = some (.int .i64 k) ∧ W.cell? ⟨w.heap.size + 1, 1, none⟩ = some (.int .i64 wn) ∧ W.cell? ⟨w.heap.size + 1 + 1, 1, none⟩ = some (.int .i64 gn) ∧ W.cell? ⟨w.heap.size + 1 + 1, 2, none⟩ = some (.slice A2 gd.length c2)))
  have hr2 := Aside0.mk (fun (W : World) (hW : Below w1.heap.size w1 W) => (⟨(blk_cell (blk_below q1 hW) 0).trans rfl, (blk_cell (blk_below q1 hW) 2).trans rfl, (blk_cell (blk_below q2 hW) 0).trans rfl⟩ : W.cell? ⟨w.heap.size + 1, 0, none⟩ = some (.int .i64 we) ∧ W.cell? ⟨w.heap.size + 1, 2, none⟩ = some (.slice A1 wd.length c1) ∧ W.cell? ⟨w.heap.size + 1 + 1, 0, none⟩ = some (.int .i64 ge)))
  clear q0 q1 q2
  have hC := Aside0.mk (fun W => model_refusable.calls k false W (by rw [refus_some, hr]))
  clear H1 H2 hc1 hc2 hr
  have b0 : (we == 0) = true := hw
  have b1 : (ge == 11) = false := hg1
  have b2 : (ge == 12) = true := hg
  clear hw
  go_wp2_with (go_at_call 24; refine (hC.out _).mono ?_; rintro e w3 ⟨rfl, hd⟩; obtain ⟨g0, g1, g2, g3⟩ := hr1.out _ hd.below; replace hd := Aside0.mk hd.below)
  go_returns
  exact ⟨rfl, hb.out.trans (Below_low hd.out hb.out.size)⟩

set_option maxHeartbeats 8000000 in
set_option maxRecDepth 100000 in
theorem fits_err_w (k p n a : Int) (A : Option Addr) (l c : Nat) (we wn : Int) (A1 : Option Addr) (c1 : Nat) (wd : List Int) (ge gn : Int) (A2 : Option Addr) (c2 : Nat) (gd : List Int) (r : Bool) (w : World) (h1 : Kd.C (Kd.int .u8) w A1 wd.length wd) (hc1 : wd.length ≤ c1) (h2 : Kd.C (Kd.int .u8) w A2 gd.length gd) (hc2 : gd.length ≤ c2)
    (hw : (we == 0) = false) (h3 : (we == ge) = false) :
    Calls Try.prog 8 #[.agg #[.int .i64 k, .int .i64 p, .int .i64 n, .int .u64 a, .slice A l c], .agg #[.int .i64 we, .int .i64 wn, .slice A1 wd.length c1], .agg #[.int .i64 ge, .int .i64 gn, .slice A2 gd.length c2]] w fun e w' => e = .returned (.bool false) ∧ Below w.heap.size w w' := by
  have hb := below_alloc (below_alloc (below_alloc (Below.refl _ w) (C25 k p n a A l c)) (C28 we wn A1 wd.length c1)) (C28 ge gn A2 gd.length c2)
  have q0 := blk_alloc (blk_alloc (blk_new w (C25 k p n a A l c)) (C28 we wn A1 wd.length c1)) (C28 ge gn A2 gd.length c2)
  have q1 := blk_alloc (blk_new (w.alloc (C25 k p n a A l c)) (C28 we wn A1 wd.length c1)) (C28 ge gn A2 gd.length c2)
  have q2 := blk_new ((w.alloc (C25 k p n a A l c)).alloc (C28 we wn A1 wd.length c1)) (C28 ge gn A2 gd.length c2)
  rw [World.size_alloc] at q1
  rw [World.size_alloc, World.size_alloc] at q2
  have H1 := Kd.C_below h1 hb
  have H2 := Kd.C_below h2 hb
  unfold C25 C28 at hb q0 q1 q2 H1 H2
  replace hb := Aside0.mk hb
  clear h1 h2
  go_enter Try.func8, Try.ntmps8
  go_upto_region 1 with fail
  generalize ((w.alloc (.cells #[.int .i64 k, .int .i64 p, .int .i64 n, .int .u64 a, .slice A l c] 25 (0, 0))).alloc (.cells #[.int .i64 we, .int .i64 wn, .slice A1 wd.length c1] 28 (0, 0))).alloc (.cells #[.int .i64 ge, .int .i64 gn, .slice A2 gd.length c2] 28 (0, 0)) = w1 at *
  have k0 : w1.cell? ⟨w.heap.size, 0, none⟩ = some (.int .i64 k) := (blk_cell q0 0).trans rfl
  have y0 : w1.cell? ⟨w.heap.size + 1, 0, none⟩ = some (.int .i64 we) := (blk_cell q1 0).trans rfl
  have y1 : w1.cell? ⟨w.heap.size + 1, 1, none⟩ = some (.int .i64 wn) := (blk_cell q1 1).trans rfl
  have y2 : w1.cell? ⟨w.heap.size + 1, 2, none⟩ = some (.slice A1 wd.length c1) := (blk_cell q1 2).trans rfl
  have z0 : w1.cell? ⟨w.heap.size + 1 + 1, 0, none⟩ = some (.int .i64 ge) := (blk_cell q2 0).trans rfl
  have z1 : w1.cell? ⟨w.heap.size + 1 + 1, 1, none⟩ = some (.int .i64 gn) := (blk_cell q2 1).trans rfl
  have z2 : w1.cell? ⟨w.heap.size + 1 + 1, 2, none⟩ = some (.slice A2 gd.length c2) := (blk_cell q2 2).trans rfl
  have hr1 := Aside0.mk (fun (W : World) (hW : Below w1.heap.size w1 W) => (⟨(blk_cell (blk_below q0 hW) 0).trans rfl, (blk_cell (blk_below q1 hW) 1).trans rfl, (blk_cell (blk_below q2 hW) 1).trans rfl, (blk_cell (blk_below q2 hW) 2).trans rfl⟩ : W.cell? ⟨w.heap.size, 0, none⟩ = some (.int .i64 k) ∧ W.cell? ⟨w.heap.size + 1, 1, none⟩ = some (.int .i64 wn) ∧ W.cell? ⟨w.heap.size + 1 + 1, 1, none⟩ = some (.int .i64 gn) ∧ W.cell? ⟨w.heap.size + 1 + 1, 2, none⟩ = some (.slice A2 gd.length c2)))
  have hr2 := Aside0.mk (fun (W : World) (hW : Below w1.heap.size w1 W) => (⟨(blk_cell (blk_below q1 hW) 0).trans rfl, (blk_cell (blk_below q1 hW) 2).trans rfl, (blk_cell (blk_below q2 hW) 0).trans rfl⟩ : W.cell? ⟨w.heap.size + 1, 0, none⟩ = some (.int .i64 we) ∧ W.cell? ⟨w.heap.size + 1, 2, none⟩ = some (.slice A1 wd.length c1) ∧ W.cell? ⟨w.heap.size + 1 + 1, 0, none⟩ = some (.int .i64 ge)))
  clear q0 q1 q2
  clear H1 H2 hc1 hc2
  go_wp2
  go_returns
  exact ⟨rfl, hb.out⟩

set_option maxHeartbeats 8000000 in
set_option maxRecDepth 100000 in
theorem fits_data_w (k p n a : Int) (A : Option Addr) (l c : Nat) (we wn : Int) (A1 : Option Addr) (c1 : Nat) (wd : List Int) (ge gn : Int) (A2 : Option Addr) (c2 : Nat) (gd : List Int) (r : Bool) (w : World) (h1 : Kd.C (Kd.int .u8) w A1 wd.length wd) (hc1 : wd.length ≤ c1) (h2 : Kd.C (Kd.int .u8) w A2 gd.length gd) (hc2 : gd.length ≤ c2)
    (hw : (we == 0) = false) (h3 : (we == ge) = true) (h4 : ((strOfNums wd).toList == (strOfNums gd).toList) = false) :
    Calls Try.prog 8 #[.agg #[.int .i64 k, .int .i64 p, .int .i64 n, .int .u64 a, .slice A l c], .agg #[.int .i64 we, .int .i64 wn, .slice A1 wd.length c1], .agg #[.int .i64 ge, .int .i64 gn, .slice A2 gd.length c2]] w fun e w' => e = .returned (.bool false) ∧ Below w.heap.size w w' := by
  have hb := below_alloc (below_alloc (below_alloc (Below.refl _ w) (C25 k p n a A l c)) (C28 we wn A1 wd.length c1)) (C28 ge gn A2 gd.length c2)
  have q0 := blk_alloc (blk_alloc (blk_new w (C25 k p n a A l c)) (C28 we wn A1 wd.length c1)) (C28 ge gn A2 gd.length c2)
  have q1 := blk_alloc (blk_new (w.alloc (C25 k p n a A l c)) (C28 we wn A1 wd.length c1)) (C28 ge gn A2 gd.length c2)
  have q2 := blk_new ((w.alloc (C25 k p n a A l c)).alloc (C28 we wn A1 wd.length c1)) (C28 ge gn A2 gd.length c2)
  rw [World.size_alloc] at q1
  rw [World.size_alloc, World.size_alloc] at q2
  have H1 := Kd.C_below h1 hb
  have H2 := Kd.C_below h2 hb
  unfold C25 C28 at hb q0 q1 q2 H1 H2
  replace hb := Aside0.mk hb
  clear h1 h2
  go_enter Try.func8, Try.ntmps8
  go_upto_region 1 with fail
  generalize ((w.alloc (.cells #[.int .i64 k, .int .i64 p, .int .i64 n, .int .u64 a, .slice A l c] 25 (0, 0))).alloc (.cells #[.int .i64 we, .int .i64 wn, .slice A1 wd.length c1] 28 (0, 0))).alloc (.cells #[.int .i64 ge, .int .i64 gn, .slice A2 gd.length c2] 28 (0, 0)) = w1 at *
  have k0 : w1.cell? ⟨w.heap.size, 0, none⟩ = some (.int .i64 k) := (blk_cell q0 0).trans rfl
  have y0 : w1.cell? ⟨w.heap.size + 1, 0, none⟩ = some (.int .i64 we) := (blk_cell q1 0).trans rfl
  have y1 : w1.cell? ⟨w.heap.size + 1, 1, none⟩ = some (.int .i64 wn) := (blk_cell q1 1).trans rfl
  have y2 : w1.cell? ⟨w.heap.size + 1, 2, none⟩ = some (.slice A1 wd.length c1) := (blk_cell q1 2).trans rfl
  have z0 : w1.cell? ⟨w.heap.size + 1 + 1, 0, none⟩ = some (.int .i64 ge) := (blk_cell q2 0).trans rfl
  have z1 : w1.cell? ⟨w.heap.size + 1 + 1, 1, none⟩ = some (.int .i64 gn) := (blk_cell q2 1).trans rfl
  have z2 : w1.cell? ⟨w.heap.size + 1 + 1, 2, none⟩ = some (.slice A2 gd.length c2) := (blk_cell q2 2).trans rfl
  have hr1 := Aside0.mk (fun (W : World) (hW : Below w1.heap.size w1 W) => (⟨(blk_cell (blk_below q0 hW) 0).trans rfl, (blk_cell (blk_below q1 hW) 1).trans rfl, (blk_cell (blk_below q2 hW) 1).trans rfl, (blk_cell (blk_below q2 hW) 2).trans rfl⟩ : W.cell? ⟨w.heap.size, 0, none⟩ = some (.int .i64 k) ∧ W.cell? ⟨w.heap.size + 1, 1, none⟩ = some (.int .i64 wn) ∧ W.cell? ⟨w.heap.size + 1 + 1, 1, none⟩ = some (.int .i64 gn) ∧ W.cell? ⟨w.heap.size + 1 + 1, 2, none⟩ = some (.slice A2 gd.length c2)))
  have hr2 := Aside0.mk (fun (W : World) (hW : Below w1.heap.size w1 W) => (⟨(blk_cell (blk_below q1 hW) 0).trans rfl, (blk_cell (blk_below q1 hW) 2).trans rfl, (blk_cell (blk_below q2 hW) 0).trans rfl⟩ : W.cell? ⟨w.heap.size + 1, 0, none⟩ = some (.int .i64 we) ∧ W.cell? ⟨w.heap.size + 1, 2, none⟩ = some (.slice A1 wd.length c1) ∧ W.cell? ⟨w.heap.size + 1 + 1, 0, none⟩ = some (.int .i64 ge)))
  clear q0 q1 q2
  have hE := Aside0.mk (fun (W : World) (hW : Below w1.heap.size w1 W) => bytes_Equal.calls A1 c1 wd A2 c2 gd _ W (Kd.C_below H1 hW) hc1 (Kd.C_below H2 hW) hc2 rfl)
  clear H1 H2 hc1 hc2
  generalize ((strOfNums wd).toList == (strOfNums gd).toList) = b4 at *
  subst h4
  go_wp2_with (go_at_call 25; refine (hE.out _ (Below.refl _ _)).mono ?_; rintro e w3 ⟨rfl, hd⟩; obtain ⟨g0, g1, g2, g3⟩ := hr1.out _ hd.below; replace hd := Aside0.mk hd.below)
  go_returns
  exact ⟨rfl, hb.out.trans (Below_low hd.out hb.out.size)⟩

set_option maxHeartbeats 8000000 in
set_option maxRecDepth 100000 in
theorem fits_n_w (k p n a : Int) (A : Option Addr) (l c : Nat) (we wn : Int) (A1 : Option Addr) (c1 : Nat) (wd : List Int) (ge gn : Int) (A2 : Option Addr) (c2 : Nat) (gd : List Int) (r : Bool) (w : World) (h1 : Kd.C (Kd.int .u8) w A1 wd.length wd) (hc1 : wd.length ≤ c1) (h2 : Kd.C (Kd.int .u8) w A2 gd.length gd) (hc2 : gd.length ≤ c2)
    (hw : (we == 0) = false) (h3 : (we == ge) = true) (h4 : ((strOfNums wd).toList == (strOfNums gd).toList) = true) (h5 : (wn == gn) = true) :
    Calls Try.prog 8 #[.agg #[.int .i64 k, .int .i64 p, .int .i64 n, .int .u64 a, .slice A l c], .agg #[.int .i64 we, .int .i64 wn, .slice A1 wd.length c1], .agg #[.int .i64 ge, .int .i64 gn, .slice A2 gd.length c2]] w fun e w' => e = .returned (.bool true) ∧ Below w.heap.size w w' := by
  have hb := below_alloc (below_alloc (below_alloc (Below.refl _ w) (C25 k p n a A l c)) (C28 we wn A1 wd.length c1)) (C28 ge gn A2 gd.length c2)
  have q0 := blk_alloc (blk_alloc (blk_new w (C25 k p n a A l c)) (C28 we wn A1 wd.length c1)) (C28 ge gn A2 gd.length c2)
  have q1 := blk_alloc (blk_new (w.alloc (C25 k p n a A l c)) (C28 we wn A1 wd.length c1)) (C28 ge gn A2 gd.length c2)
  have q2 := blk_new ((w.alloc (C25 k p n a A l c)).alloc (C28 we wn A1 wd.length c1)) (C28 ge gn A2 gd.length c2)
  rw [World.size_alloc] at q1
  rw [World.size_alloc, World.size_alloc] at q2
  have H1 := Kd.C_below h1 hb
  have H2 := Kd.C_below h2 hb
  unfold C25 C28 at hb q0 q1 q2 H1 H2
  replace hb := Aside0.mk hb
  clear h1 h2
  go_enter Try.func8, Try.ntmps8
  go_upto_region 1 with fail
  generalize ((w.alloc (.cells #[.int .i64 k, .int .i64 p, .int .i64 n, .int .u64 a, .slice A l c] 25 (0, 0))).alloc (.cells #[.int .i64 we, .int .i64 wn, .slice A1 wd.length c1] 28 (0, 0))).alloc (.cells #[.int .i64 ge, .int .i64 gn, .slice A2 gd.length c2] 28 (0, 0)) = w1 at *
  have k0 : w1.cell? ⟨w.heap.size, 0, none⟩ = some (.int .i64 k) := (blk_cell q0 0).trans rfl
  have y0 : w1.cell? ⟨w.heap.size + 1, 0, none⟩ = some (.int .i64 we) := (blk_cell q1 0).trans rfl
  have y1 : w1.cell? ⟨w.heap.size + 1, 1, none⟩ = some (.int .i64 wn) := (blk_cell q1 1).trans rfl
  have y2 : w1.cell? ⟨w.heap.size + 1, 2, none⟩ = some (.slice A1 wd.length c1) := (blk_cell q1 2).trans rfl
  have z0 : w1.cell? ⟨w.heap.size + 1 + 1, 0, none⟩ = some (.int .i64 ge) := (blk_cell q2 0).trans rfl
  have z1 : w1.cell? ⟨w.heap.size + 1 + 1, 1, none⟩ = some (.int .i64 gn) := (blk_cell q2 1).trans rfl
  have z2 : w1.cell? ⟨w.heap.size + 1 + 1, 2, none⟩ = some (.slice A2 gd.length c2) := (blk_cell q2 2).trans rfl
  have hr1 := Aside0.mk (fun (W : World) (hW : Below w1.heap.size w1 W) => (⟨(blk_cell (blk_below q0 hW) 0).trans rfl, (blk_cell (blk_below q1 hW) 1).trans rfl, (blk_cell (blk_below q2 hW) 1).trans rfl, (blk_cell (blk_below q2 hW) 2).trans rfl⟩ : W.cell? ⟨w.heap.size, 0, none⟩ = some (.int .i64 k) ∧ W.cell? ⟨w.heap.size + 1, 1, none⟩ = some (.int .i64 wn) ∧ W.cell? ⟨w.heap.size + 1 + 1, 1, none⟩ = some (.int .i64 gn) ∧ W.cell? ⟨w.heap.size + 1 + 1, 2, none⟩ = some (.slice A2 gd.length c2)))
  have hr2 := Aside0.mk (fun (W : World) (hW : Below w1.heap.size w1 W) => (⟨(blk_cell (blk_below q1 hW) 0).trans rfl, (blk_cell (blk_below q1 hW) 2).trans rfl, (blk_cell (blk_below q2 hW) 0).trans rfl⟩ : W.cell? ⟨w.heap.size + 1, 0, none⟩ = some (.int .i64 we) ∧ W.cell? ⟨w.heap.size + 1, 2, none⟩ = some (.slice A1 wd.length c1) ∧ W.cell? ⟨w.heap.size + 1 + 1, 0, none⟩ = some (.int .i64 ge)))
  clear q0 q1 q2
  have hE := Aside0.mk (fun (W : World) (hW : Below w1.heap.size w1 W) => bytes_Equal.calls A1 c1 wd A2 c2 gd _ W (Kd.C_below H1 hW) hc1 (Kd.C_below H2 hW) hc2 rfl)
  clear H1 H2 hc1 hc2
  generalize ((strOfNums wd).toList == (strOfNums gd).toList) = b4 at *
  subst h4
  go_wp2_with (go_at_call 25; refine (hE.out _ (Below.refl _ _)).mono ?_; rintro e w3 ⟨rfl, hd⟩; obtain ⟨g0, g1, g2, g3⟩ := hr1.out _ hd.below; replace hd := Aside0.mk hd.below)
  go_returns
  exact ⟨rfl, hb.out.trans (Below_low hd.out hb.out.size)⟩

set_option maxHeartbeats 8000000 in
set_option maxRecDepth 100000 in
theorem fits_c_w (k p n a : Int) (A : Option Addr) (l c : Nat) (we wn : Int) (A1 : Option Addr) (c1 : Nat) (wd : List Int) (ge gn : Int) (A2 : Option Addr) (c2 : Nat) (gd : List Int) (r : Bool) (w : World) (h1 : Kd.C (Kd.int .u8) w A1 wd.length wd) (hc1 : wd.length ≤ c1) (h2 : Kd.C (Kd.int .u8) w A2 gd.length gd) (hc2 : gd.length ≤ c2)
    (hw : (we == 0) = false) (h3 : (we == ge) = true) (h4 : ((strOfNums wd).toList == (strOfNums gd).toList) = true) (h5 : (wn == gn) = false) (hr : countB k = r) :
    Calls Try.prog 8 #[.agg #[.int .i64 k, .int .i64 p, .int .i64 n, .int .u64 a, .slice A l c], .agg #[.int .i64 we, .int .i64 wn, .slice A1 wd.length c1], .agg #[.int .i64 ge, .int .i64 gn, .slice A2 gd.length c2]] w fun e w' => e = .returned (.bool r) ∧ Below w.heap.size w w' := by
  have hb := below_alloc (below_alloc (below_alloc (Below.refl _ w) (C25 k p n a A l c)) (C28 we wn A1 wd.length c1)) (C28 ge gn A2 gd.length c2)
  have q0 := blk_alloc (blk_alloc (blk_new w (C25 k p n a A l c)) (C28 we wn A1 wd.length c1)) (C28 ge gn A2 gd.length c2)
  have q1 := blk_alloc (blk_new (w.alloc (C25 k p n a A l c)) (C28 we wn A1 wd.length c1)) (C28 ge gn A2 gd.length c2)
  have q2 := blk_new ((w.alloc (C25 k p n a A l c)).alloc (C28 we wn A1 wd.length c1)) (C28 ge gn A2 gd.length c2)
  rw [World.size_alloc] at q1
  rw [World.size_alloc, World.size_alloc] at q2
  have H1 := Kd.C_below h1 hb
  have H2 := Kd.C_below h2 hb
  unfold C25 C28 at hb q0 q1 q2 H1 H2
  replace hb := Aside0.mk hb
  clear h1 h2
  go_enter Try.func8, Try.ntmps8
  go_upto_region 1 with fail
  generalize ((w.alloc (.cells #[.int .i64 k, .int .i64 p, .int .i64 n, .int .u64 a, .slice A l c] 25 (0, 0))).alloc (.cells #[.int .i64 we, .int .i64 wn, .slice A1 wd.length c1] 28 (0, 0))).alloc (.cells #[.int .i64 ge, .int .i64 gn, .slice A2 gd.length c2] 28 (0, 0)) = w1 at *
  have k0 : w1.cell? ⟨w.heap.size, 0, none⟩ = some (.int .i64 k) := (blk_cell q0 0).trans rfl
  have y0 : w1.cell? ⟨w.heap.size + 1, 0, none⟩ = some (.int .i64 we) := (blk_cell q1 0).trans rfl
  have y1 : w1.cell? ⟨w.heap.size + 1, 1, none⟩ = some (.int .i64 wn) := (blk_cell q1 1).trans rfl
  have y2 : w1.cell? ⟨w.heap.size + 1, 2, none⟩ = some (.slice A1 wd.length c1) := (blk_cell q1 2).trans rfl
  have z0 : w1.cell? ⟨w.heap.size + 1 + 1, 0, none⟩ = some (.int .i64 ge) := (blk_cell q2 0).trans rfl
  have z1 : w1.cell? ⟨w.heap.size + 1 + 1, 1, none⟩ = some (.int .i64 gn) := (blk_cell q2 1).trans rfl
  have z2 : w1.cell? ⟨w.heap.size + 1 + 1, 2, none⟩ = some (.slice A2 gd.length c2) := (blk_cell q2 2).trans rfl
  have hr1 := Aside0.mk (fun (W : World) (hW : Below w1.heap.size w1 W) => (⟨(blk_cell (blk_below q0 hW) 0).trans rfl, (blk_cell (blk_below q1 hW) 1).trans rfl, (blk_cell (blk_below q2 hW) 1).trans rfl, (blk_cell (blk_below q2 hW) 2).trans rfl⟩ : W.cell? ⟨w.heap.size, 0, none⟩ = some (.int .i64 k) ∧ W.cell? ⟨w.heap.size + 1, 1, none⟩ = some (.int .i64 wn) ∧ W.cell? ⟨w.heap.size + 1 + 1, 1, none⟩ = some (.int .i64 gn) ∧ W.cell? ⟨w.heap.size + 1 + 1, 2, none⟩ = some (.slice A2 gd.length c2)))
  have hr2 := Aside0.mk (fun (W : World) (hW : Below w1.heap.size w1 W) => (⟨(blk_cell (blk_below q1 hW) 0).trans rfl, (blk_cell (blk_below q1 hW) 2).trans rfl, (blk_cell (blk_below q2 hW) 0).trans rfl⟩ : W.cell? ⟨w.heap.size + 1, 0, none⟩ = some (.int .i64 we) ∧ W.cell? ⟨w.heap.size + 1, 2, none⟩ = some (.slice A1 wd.length c1) ∧ W.cell? ⟨w.heap.size + 1 + 1, 0, none⟩ = some (.int .i64 ge)))
  clear q0 q1 q2
  have hE := Aside0.mk (fun (W : World) (hW : Below w1.heap.size w1 W) => bytes_Equal.calls A1 c1 wd A2 c2 gd _ W (Kd.C_below H1 hW) hc1 (Kd.C_below H2 hW) hc2 rfl)
  clear H1 H2 hc1 hc2
  generalize ((strOfNums wd).toList == (strOfNums gd).toList) = b4 at *
  subst h4
  have hC := Aside0.mk (fun W => model_counted.calls k r W (by rw [count_some, hr]))
  clear hr
  go_wp2_with (first
    | (go_at_call 26; refine (hC.out _).mono ?_; have hd0 := hd; rintro e w4 ⟨rfl, hd2⟩; replace hd2 := Aside0.mk (below_step hd0.out hd2.below))
    | (go_at_call 25; refine (hE.out _ (Below.refl _ _)).mono ?_; rintro e w3 ⟨rfl, hd⟩; obtain ⟨g0, g1, g2, g3⟩ := hr1.out _ hd.below; replace hd := Aside0.mk hd.below))
  go_returns
  exact ⟨rfl, hb.out.trans (Below_low hd2.out hb.out.size)⟩

set_option maxHeartbeats 8000000 in
set_option maxRecDepth 100000 in
theorem fits_err_g (k p n a : Int) (A : Option Addr) (l c : Nat) (we wn : Int) (A1 : Option Addr) (c1 : Nat) (wd : List Int) (ge gn : Int) (A2 : Option Addr) (c2 : Nat) (gd : List Int) (r : Bool) (w : World) (h1 : Kd.C (Kd.int .u8) w A1 wd.length wd) (hc1 : wd.length ≤ c1) (h2 : Kd.C (Kd.int .u8) w A2 gd.length gd) (hc2 : gd.length ≤ c2)
    (hw : (we == 0) = true) (hg1 : (ge == 11) = false) (hg2 : (ge == 12) = false) (h3 : (we == ge) = false) :
    Calls Try.prog 8 #[.agg #[.int .i64 k, .int .i64 p, .int .i64 n, .int .u64 a, .slice A l c], .agg #[.int .i64 we, .int .i64 wn, .slice A1 wd.length c1], .agg #[.int .i64 ge, .int .i64 gn, .slice A2 gd.length c2]] w fun e w' => e = .returned (.bool false) ∧ Below w.heap.size w w' := by
  have hb := below_alloc (below_alloc (below_alloc (Below.refl _ w) (C25 k p n a A l c)) (C28 we wn A1 wd.length c1)) (C28 ge gn A2 gd.length c2)
  have q0 := blk_alloc (blk_alloc (blk_new w (C25 k p n a A l c)) (C28 we wn A1 wd.length c1)) (C28 ge gn A2 gd.length c2)
  have q1 := blk_alloc (blk_new (w.alloc (C25 k p n a A l c)) (C28 we wn A1 wd.length c1)) (C28 ge gn A2 gd.length c2)
  have q2 := blk_new ((w.alloc (C25 k p n a A l c)).alloc (C28 we wn A1 wd.length c1)) (C28 ge gn A2 gd.length c2)
  rw [World.size_alloc] at q1
  rw [World.size_alloc, World.size_alloc] at q2
  have H1 := Kd.C_below h1 hb
  have H2 := Kd.C_below h2 hb
  unfold C25 C28 at hb q0 q1 q2 H1 H2
  replace hb := Aside0.mk hb
  clear h1 h2
  go_enter Try.func8, Try.ntmps8
  go_upto_region 1 with fail
  generalize ((w.alloc (.cells #[.int .i64 k, .int .i64 p, .int .i64 n, .int .u64 a, .slice A l c] 25 (0, 0))).alloc (.cells #[.int .i64 we, .int .i64 wn, .slice A1 wd.length c1] 28 (0, 0))).alloc (.cells #[.int .i64 ge, .int .i64 gn, .slice A2 gd.length c2] 28 (0, 0)) = w1 at *
  have k0 : w1.cell? ⟨w.heap.size, 0, none⟩ = some (.int .i64 k) := (blk_cell q0 0).trans rfl
  have y0 : w1.cell? ⟨w.heap.size + 1, 0, none⟩ = some (.int .i64 we) := (blk_cell q1 0).trans rfl
  have y1 : w1.cell? ⟨w.heap.size + 1, 1, none⟩ = some (.int .i64 wn) := (blk_cell q1 1).trans rfl
  have y2 : w1.cell? ⟨w.heap.size + 1, 2, none⟩ = some (.slice A1 wd.length c1) := (blk_cell q1 2).trans rfl
  have z0 : w1.cell? ⟨w.heap.size + 1 + 1, 0, none⟩ = some (.int .i64 ge) := (blk_cell q2 0).trans rfl
  have z1 : w1.cell? ⟨w.heap.size + 1 + 1, 1, none⟩ = some (.int .i64 gn) := (blk_cell q2 1).trans rfl
  have z2 : w1.cell? ⟨w.heap.size + 1 + 1, 2, none⟩ = some (.slice A2 gd.length c2) := (blk_cell q2 2).trans rfl
  have hr1 := Aside0.mk (fun (W : World) (hW : Below w1.heap.size w1 W) => (⟨(blk_cell (blk_below q0 hW) 0).trans rfl, (blk_cell (blk_below q1 hW) 1).trans rfl, (blk_cell (blk_below q2 hW) 1).trans rfl, (blk_cell (blk_below q2 hW) 2).trans rfl⟩ : W.cell? ⟨w.heap.size, 0, none⟩ = some (.int .i64 k) ∧ W.cell? ⟨w.heap.size + 1, 1, none⟩ = some (.int .i64 wn) ∧ W.cell? ⟨w.heap.size + 1 + 1, 1, none⟩ = some (.int .i64 gn) ∧ W.cell? ⟨w.heap.size + 1 + 1, 2, none⟩ = some (.slice A2 gd.length c2)))
  have hr2 := Aside0.mk (fun (W : World) (hW : Below w1.heap.size w1 W) => (⟨(blk_cell (blk_below q1 hW) 0).trans rfl, (blk_cell (blk_below q1 hW) 2).trans rfl, (blk_cell (blk_below q2 hW) 0).trans rfl⟩ : W.cell? ⟨w.heap.size + 1, 0, none⟩ = some (.int .i64 we) ∧ W.cell? ⟨w.heap.size + 1, 2, none⟩ = some (.slice A1 wd.length c1) ∧ W.cell? ⟨w.heap.size + 1 + 1, 0, none⟩ = some (.int .i64 ge)))
  clear q0 q1 q2
  clear H1 H2 hc1 hc2
  go_wp2
  go_returns
  exact ⟨rfl, hb.out⟩

set_option maxHeartbeats 8000000 in
set_option maxRecDepth 100000 in
theorem fits_data_g (k p n a : Int) (A : Option Addr) (l c : Nat) (we wn : Int) (A1 : Option Addr) (c1 : Nat) (wd : List Int) (ge gn : Int) (A2 : Option Addr) (c2 : Nat) (gd : List Int) (r : Bool) (w : World) (h1 : Kd.C (Kd.int .u8) w A1 wd.length wd) (hc1 : wd.length ≤ c1) (h2 : Kd.C (Kd.int .u8) w A2 gd.length gd) (hc2 : gd.length ≤ c2)
    (hw : (we == 0) = true) (hg1 : (ge == 11) = false) (hg2 : (ge == 12) = false) (h3 : (we == ge) = true) (h4 : ((strOfNums wd).toList == (strOfNums gd).toList) = false) :
    Calls Try.prog 8 #[.agg #[.int .i64 k, .int .i64 p, .int .i64 n, .int .u64 a, .slice A l c], .agg #[.int .i64 we, .int .i64 wn, .slice A1 wd.length c1], .agg #[.int .i64 ge, .int .i64 gn, .slice A2 gd.length c2]] w fun e w' => e = .returned (.bool false) ∧ Below w.heap.size w w' := by
  have hb := below_alloc (below_alloc (below_alloc (Below.refl _ w) (C25 k p n a A l c)) (C28 we wn A1 wd.length c1)) (C28 ge gn A2 gd.length c2)
  have q0 := blk_alloc (blk_alloc (blk_new w (C25 k p n a A l c)) (C28 we wn A1 wd.length c1)) (C28 ge gn A2 gd.length c2)
  have q1 := blk_alloc (blk_new (w.alloc (C25 k p n a A l c)) (C28 we wn A1 wd.length c1)) (C28 ge gn A2 gd.length c2)
  have q2 := blk_new ((w.alloc (C25 k p n a A l c)).alloc (C28 we wn A1 wd.length c1)) (C28 ge gn A2 gd.length c2)
  rw [World.size_alloc] at q1
  rw [World.size_alloc, World.size_alloc] at q2
  have H1 := Kd.C_below h1 hb
  have H2 := Kd.C_below h2 hb
  unfold C25 C28 at hb q0 q1 q2 H1 H2
  replace hb := Aside0.mk hb
  clear h1 h2
  go_enter Try.func8, Try.ntmps8
  go_upto_region 1 with fail
  generalize ((w.alloc (.cells #[.int .i64 k, .int .i64 p, .int .i64 n, .int .u64 a, .slice A l c] 25 (0, 0))).alloc (.cells #[.int .i64 we, .int .i64 wn, .slice A1 wd.length c1] 28 (0, 0))).alloc (.cells #[.int .i64 ge, .int .i64 gn, .slice A2 gd.length c2] 28 (0, 0)) = w1 at *
  have k0 : w1.cell? ⟨w.heap.size, 0, none⟩ = some (.int .i64 k) := (blk_cell q0 0).trans rfl
  have y0 : w1.cell? ⟨w.heap.size + 1, 0, none⟩ = some (.int .i64 we) := (blk_cell q1 0).trans rfl
  have y1 : w1.cell? ⟨w.heap.size + 1, 1, none⟩ = some (.int .i64 wn) := (blk_cell q1 1).trans rfl
  have y2 : w1.cell? ⟨w.heap.size + 1, 2, none⟩ = some (.slice A1 wd.length c1) := (blk_cell q1 2).trans rfl
  have z0 : w1.cell? ⟨w.heap.size + 1 + 1, 0, none⟩ = some (.int .i64 ge) := (blk_cell q2 0).trans rfl
  have z1 : w1.cell? ⟨w.heap.size + 1 + 1, 1, none⟩ = some (.int .i64 gn) := (blk_cell q2 1).trans rfl
  have z2 : w1.cell? ⟨w.heap.size + 1 + 1, 2, none⟩ = some (.slice A2 gd.length c2) := (blk_cell q2 2).trans rfl
  have hr1 := Aside0.mk (fun (W : World) (hW : Below w1.heap.size w1 W) => (⟨(blk_cell (blk_below q0 hW) 0).trans rfl, (blk_cell (blk_below q1 hW) 1).trans rfl, (blk_cell (blk_below q2 hW) 1).trans rfl, (blk_cell (blk_below q2 hW) 2).trans rfl⟩ : W.cell? ⟨w.heap.size, 0, none⟩ = some (.int .i64 k) ∧ W.cell? ⟨w.heap.size + 1, 1, none⟩ = some (.int .i64 wn) ∧ W.cell? ⟨w.heap.size + 1 + 1, 1, none⟩ = some (.int .i64 gn) ∧ W.cell? ⟨w.heap.size + 1 + 1, 2, none⟩ = some (.slice A2 gd.length c2)))
  have hr2 := Aside0.mk (fun (W : World) (hW : Below w1.heap.size w1 W) => (⟨(blk_cell (blk_below q1 hW) 0).trans rfl, (blk_cell (blk_below q1 hW) 2).trans rfl, (blk_cell (blk_below q2 hW) 0).trans rfl⟩ : W.cell? ⟨w.heap.size + 1, 0, none⟩ = some (.int .i64 we) ∧ W.cell? ⟨w.heap.size + 1, 2, none⟩ = some (.slice A1 wd.length c1) ∧ W.cell? ⟨w.heap.size + 1 + 1, 0, none⟩ = some (.int .i64 ge)))
  clear q0 q1 q2
  have hE := Aside0.mk (fun (W : World) (hW : Below w1.heap.size w1 W) => bytes_Equal.calls A1 c1 wd A2 c2 gd _ W (Kd.C_below H1 hW) hc1 (Kd.C_below H2 hW) hc2 rfl)
  clear H1 H2 hc1 hc2
  generalize ((strOfNums wd).toList == (strOfNums gd).toList) = b4 at *
  subst h4
  go_wp2_with (go_at_call 25; refine (hE.out _ (Below.refl _ _)).mono ?_; rintro e w3 ⟨rfl, hd⟩; obtain ⟨g0, g1, g2, g3⟩ := hr1.out _ hd.below; replace hd := Aside0.mk hd.below)
  go_returns
  exact ⟨rfl, hb.out.trans (Below_low hd.out hb.out.size)⟩

set_option maxHeartbeats 8000000 in
set_option maxRecDepth 100000 in
theorem fits_n_g (k p n a : Int) (A : Option Addr) (l c : Nat) (we wn : Int) (A1 : Option Addr) (c1 : Nat) (wd : List Int) (ge gn : Int) (A2 : Option Addr) (c2 : Nat) (gd : List Int) (r : Bool) (w : World) (h1 : Kd.C (Kd.int .u8) w A1 wd.length wd) (hc1 : wd.length ≤ c1) (h2 : Kd.C (Kd.int .u8) w A2 gd.length gd) (hc2 : gd.length ≤ c2)
    (hw : (we == 0) = true) (hg1 : (ge == 11) = false) (hg2 : (ge == 12) = false) (h3 : (we == ge) = true) (h4 : ((strOfNums wd).toList == (strOfNums gd).toList) = true) (h5 : (wn == gn) = true) :
    Calls Try.prog 8 #[.agg #[.int .i64 k, .int .i64 p, .int .i64 n, .int .u64 a, .slice A l c], .agg #[.int .i64 we, .int .i64 wn, .slice A1 wd.length c1], .agg #[.int .i64 ge, .int .i64 gn, .slice A2 gd.length c2]] w fun e w' => e = .returned (.bool true) ∧ Below w.heap.size w w' := by
  have hb := below_alloc (below_alloc (below_alloc (Below.refl _ w) (C25 k p n a A l c)) (C28 we wn A1 wd.length c1)) (C28 ge gn A2 gd.length c2)
  have q0 := blk_alloc (blk_alloc (blk_new w (C25 k p n a A l c)) (C28 we wn A1 wd.length c1)) (C28 ge gn A2 gd.length c2)
  have q1 := blk_alloc (blk_new (w.alloc (C25 k p n a A l c)) (C28 we wn A1 wd.length c1)) (C28 ge gn A2 gd.length c2)
  have q2 := blk_new ((w.alloc (C25 k p n a A l c)).alloc (C28 we wn A1 wd.length c1)) (C28 ge gn A2 gd.length c2)
  rw [World.size_alloc] at q1
  rw [World.size_alloc, World.size_alloc] at q2
  have H1 := Kd.C_below h1 hb
  have H2 := Kd.C_below h2 hb
  unfold C25 C28 at hb q0 q1 q2 H1 H2
  replace hb := Aside0.mk hb
  clear h1 h2
  go_enter Try.func8, Try.ntmps8
  go_upto_region 1 with fail
  generalize ((w.alloc (.cells #[.int .i64 k, .int .i64 p, .int .i64 n, .int .u64 a, .slice A l c] 25 (0, 0))).alloc (.cells #[.int .i64 we, .int .i64 wn, .slice A1 wd.length c1] 28 (0, 0))).alloc (.cells #[.int .i64 ge, .int .i64 gn, .slice A2 gd.length c2] 28 (0, 0)) = w1 at *
  have k0 : w1.cell? ⟨w.heap.size, 0, none⟩ = some (.int .i64 k) := (blk_cell q0 0).trans rfl
  have y0 : w1.cell? ⟨w.heap.size + 1, 0, none⟩ = some (.int .i64 we) := (blk_cell q1 0).trans rfl
  have y1 : w1.cell? ⟨w.heap.size + 1, 1, none⟩ = some (.int .i64 wn) := (blk_cell q1 1).trans rfl
  have y2 : w1.cell? ⟨w.heap.size + 1, 2, none⟩ = some (.slice A1 wd.length c1) := (blk_cell q1 2).trans rfl
  have z0 : w1.cell? ⟨w.heap.size + 1 + 1, 0, none⟩ = some (.int .i64 ge) := (blk_cell q2 0).trans rfl
  have z1 : w1.cell? ⟨w.heap.size + 1 + 1, 1, none⟩ = some (.int .i64 gn) := (blk_cell q2 1).trans rfl
  have z2 : w1.cell? ⟨w.heap.size + 1 + 1, 2, none⟩ = some (.slice A2 gd.length c2) := (blk_cell q2 2).trans rfl
  have hr1 := Aside0.mk (fun (W : World) (hW : Below w1.heap.size w1 W) => (⟨(blk_cell (blk_below q0 hW) 0).trans rfl, (blk_cell (blk_below q1 hW) 1).trans rfl, (blk_cell (blk_below q2 hW) 1).trans rfl, (blk_cell (blk_below q2 hW) 2).trans rfl⟩ : W.cell? ⟨w.heap.size, 0, none⟩ = some (.int .i64 k) ∧ W.cell? ⟨w.heap.size + 1, 1, none⟩ = some (.int .i64 wn) ∧ W.cell? ⟨w.heap.size + 1 + 1, 1, none⟩ = some (.int .i64 gn) ∧ W.cell? ⟨w.heap.size + 1 + 1, 2, none⟩ = some (.slice A2 gd.length c2)))
  have hr2 := Aside0.mk (fun (W : World) (hW : Below w1.heap.size w1 W) => (⟨(blk_cell (blk_below q1 hW) 0).trans rfl, (blk_cell (blk_below q1 hW) 2).trans rfl, (blk_cell (blk_below q2 hW) 0).trans rfl⟩ : W.cell? ⟨w.heap.size + 1, 0, none⟩ = some (.int .i64 we) ∧ W.cell? ⟨w.heap.size + 1, 2, none⟩ = some (.slice A1 wd.length c1) ∧ W.cell? ⟨w.heap.size + 1 + 1, 0, none⟩ = some (.int .i64 ge)))
  clear q0 q1 q2
  have hE := Aside0.mk (fun (W : World) (hW : Below w1.heap.size w1 W) => bytes_Equal.calls A1 c1 wd A2 c2 gd _ W (Kd.C_below H1 hW) hc1 (Kd.C_below H2 hW) hc2 rfl)
  clear H1 H2 hc1 hc2
  generalize ((strOfNums wd).toList == (strOfNums gd).toList) = b4 at *
  subst h4
  go_wp2_with (go_at_call 25; refine (hE.out _ (Below.refl _ _)).mono ?_; rintro e w3 ⟨rfl, hd⟩; obtain ⟨g0, g1, g2, g3⟩ := hr1.out _ hd.below; replace hd := Aside0.mk hd.below)
  go_returns
  exact ⟨rfl, hb.out.trans (Below_low hd.out hb.out.size)⟩

set_option maxHeartbeats 8000000 in
set_option maxRecDepth 100000 in
theorem fits_c_g (k p n a : Int) (A : Option Addr) (l c : Nat) (we wn : Int) (A1 : Option Addr) (c1 : Nat) (wd : List Int) (ge gn : Int) (A2 : Option Addr) (c2 : Nat) (gd : List Int) (r : Bool) (w : World) (h1 : Kd.C (Kd.int .u8) w A1 wd.length wd) (hc1 : wd.length ≤ c1) (h2 : Kd.C (Kd.int .u8) w A2 gd.length gd) (hc2 : gd.length ≤ c2)
    (hw : (we == 0) = true) (hg1 : (ge == 11) = false) (hg2 : (ge == 12) = false) (h3 : (we == ge) = true) (h4 : ((strOfNums wd).toList == (strOfNums gd).toList) = true) (h5 : (wn == gn) = false) (hr : countB k = r) :
    Calls Try.prog 8 #[.agg #[.int .i64 k, .int .i64 p, .int .i64 n, .int .u64 a, .slice A l c], .agg #[.int .i64 we, .int .i64 wn, .slice A1 wd.length c1], .agg #[.int .i64 ge, .int .i64 gn, .slice A2 gd.length c2]] w fun e w' => e = .returned (.bool r) ∧ Below w.heap.size w w' := by
  have hb := below_alloc (below_alloc (below_alloc (Below.refl _ w) (C25 k p n a A l c)) (C28 we wn A1 wd.length c1)) (C28 ge gn A2 gd.length c2)
  have q0 := blk_alloc (blk_alloc (blk_new w (C25 k p n a A l c)) (C28 we wn A1 wd.length c1)) (C28 ge gn A2 gd.length c2)
  have q1 := blk_alloc (blk_new (w.alloc (C25 k p n a A l c)) (C28 we wn A1 wd.length c1)) (C28 ge gn A2 gd.length c2)
  have q2 := blk_new ((w.alloc (C25 k p n a A l c)).alloc (C28 we wn A1 wd.length c1)) (C28 ge gn A2 gd.length c2)
  rw [World.size_alloc] at q1
  rw [World.size_alloc, World.size_alloc] at q2
  have H1 := Kd.C_below h1 hb
  have H2 := Kd.C_below h2 hb
  unfold C25 C28 at hb q0 q1 q2 H1 H2
  replace hb := Aside0.mk hb
  clear h1 h2
  go_enter Try.func8, Try.ntmps8
  go_upto_region 1 with fail
  generalize ((w.alloc (.cells #[.int .i64 k, .int .i64 p, .int .i64 n, .int .u64 a, .slice A l c] 25 (0, 0))).alloc (.cells #[.int .i64 we, .int .i64 wn, .slice A1 wd.length c1] 28 (0, 0))).alloc (.cells #[.int .i64 ge, .int .i64 gn, .slice A2 gd.length c2] 28 (0, 0)) = w1 at *
  have k0 : w1.cell? ⟨w.heap.size, 0, none⟩ = some (.int .i64 k) := (blk_cell q0 0).trans rfl
  have y0 : w1.cell? ⟨w.heap.size + 1, 0, none⟩ = some (.int .i64 we) := (blk_cell q1 0).trans rfl
  have y1 : w1.cell? ⟨w.heap.size + 1, 1, none⟩ = some (.int .i64 wn) := (blk_cell q1 1).trans rfl
  have y2 : w1.cell? ⟨w.heap.size + 1, 2, none⟩ = some (.slice A1 wd.length c1) := (blk_cell q1 2).trans rfl
  have z0 : w1.cell? ⟨w.heap.size + 1 + 1, 0, none⟩ = some (.int .i64 ge) := (blk_cell q2 0).trans rfl
  have z1 : w1.cell? ⟨w.heap.size + 1 + 1, 1, none⟩ = some (.int .i64 gn) := (blk_cell q2 1).trans rfl
  have z2 : w1.cell? ⟨w.heap.size + 1 + 1, 2, none⟩ = some (.slice A2 gd.length c2) := (blk_cell q2 2).trans rfl
  have hr1 := Aside0.mk (fun (W : World) (hW : Below w1.heap.size w1 W) => (⟨(blk_cell (blk_below q0 hW) 0).trans rfl, (blk_cell (blk_below q1 hW) 1).trans rfl, (blk_cell (blk_below q2 hW) 1).trans rfl, (blk_cell (blk_below q2 hW) 2).trans rfl⟩ : W.cell? ⟨w.heap.size, 0, none⟩ = some (.int .i64 k) ∧ W.cell? ⟨w.heap.size + 1, 1, none⟩ = some (.int .i64 wn) ∧ W.cell? ⟨w.heap.size + 1 + 1, 1, none⟩ = some (.int .i64 gn) ∧ W.cell? ⟨w.heap.size + 1 + 1, 2, none⟩ = some (.slice A2 gd.length c2)))
  have hr2 := Aside0.mk (fun (W : World) (hW : Below w1.heap.size w1 W) => (⟨(blk_cell (blk_below q1 hW) 0).trans rfl, (blk_cell (blk_below q1 hW) 2).trans rfl, (blk_cell (blk_below q2 hW) 0).trans rfl⟩ : W.cell? ⟨w.heap.size + 1, 0, none⟩ = some (.int .i64 we) ∧ W.cell? ⟨w.heap.size + 1, 2, none⟩ = some (.slice A1 wd.length c1) ∧ W.cell? ⟨w.heap.size + 1 + 1, 0, none⟩ = some (.int .i64 ge)))
  clear q0 q1 q2
  have hE := Aside0.mk (fun (W : World) (hW : Below w1.heap.size w1 W) => bytes_Equal.calls A1 c1 wd A2 c2 gd _ W (Kd.C_below H1 hW) hc1 (Kd.C_below H2 hW) hc2 rfl)
  clear H1 H2 hc1 hc2
  generalize ((strOfNums wd).toList == (strOfNums gd).toList) = b4 at *
  subst h4
  have hC := Aside0.mk (fun W => model_counted.calls k r W (by rw [count_some, hr]))
  clear hr
  go_wp2_with (first
    | (go_at_call 26; refine (hC.out _).mono ?_; have hd0 := hd; rintro e w4 ⟨rfl, hd2⟩; replace hd2 := Aside0.mk (below_step hd0.out hd2.below))
    | (go_at_call 25; refine (hE.out _ (Below.refl _ _)).mono ?_; rintro e w3 ⟨rfl, hd⟩; obtain ⟨g0, g1, g2, g3⟩ := hr1.out _ hd.below; replace hd := Aside0.mk hd.below))
  go_returns
  exact ⟨rfl, hb.out.trans (Below_low hd2.out hb.out.size)⟩

set_option maxHeartbeats 8000000 in
set_option maxRecDepth 100000 in
theorem rfits_ref_0_true (k p n a : Int) (A : Option Addr) (l c : Nat) (we wn : Int) (A1 : Option Addr) (c1 : Nat) (wd : List Int) (ge gn : Int) (A2 : Option Addr) (c2 : Nat) (gd : List Int) (r : Bool) (w : World) (h1 : Kd.C (Kd.int .u8) w A1 wd.length wd) (hc1 : wd.length ≤ c1) (h2 : Kd.C (Kd.int .u8) w A2 gd.length gd) (hc2 : gd.length ≤ c2)
    (hw : (we == 0) = true) (hg : gunnyref38_Refusal.f ge = some true) (hk : k = 0) (hl : decide (gd.length = 0) = true) :
    Calls Try.prog 9 #[.agg #[.int .i64 k, .int .i64 p, .int .i64 n, .int .u64 a, .slice A l c], .agg #[.int .i64 we, .int .i64 wn, .slice A1 wd.length c1], .agg #[.int .i64 ge, .int .i64 gn, .slice A2 gd.length c2]] w fun e w' => e = .returned (.bool true) ∧ Below w.heap.size w w' := by
  have hb := below_alloc (below_alloc (below_alloc (Below.refl _ w) (C25 k p n a A l c)) (C28 we wn A1 wd.length c1)) (C28 ge gn A2 gd.length c2)
  have q0 := blk_alloc (blk_alloc (blk_new w (C25 k p n a A l c)) (C28 we wn A1 wd.length c1)) (C28 ge gn A2 gd.length c2)
  have q1 := blk_alloc (blk_new (w.alloc (C25 k p n a A l c)) (C28 we wn A1 wd.length c1)) (C28 ge gn A2 gd.length c2)
  have q2 := blk_new ((w.alloc (C25 k p n a A l c)).alloc (C28 we wn A1 wd.length c1)) (C28 ge gn A2 gd.length c2)
  rw [World.size_alloc] at q1
  rw [World.size_alloc, World.size_alloc] at q2
  have H1 := Kd.C_below h1 hb
  have H2 := Kd.C_below h2 hb
  unfold C25 C28 at hb q0 q1 q2 H1 H2
  replace hb := Aside0.mk hb
  clear h1 h2
  replace hk := Aside0.mk hk
  go_enter Try.func9, Try.ntmps9
  go_upto_region 1 with fail
  generalize ((w.alloc (.cells #[.int .i64 k, .int .i64 p, .int .i64 n, .int .u64 a, .slice A l c] 25 (0, 0))).alloc (.cells #[.int .i64 we, .int .i64 wn, .slice A1 wd.length c1] 28 (0, 0))).alloc (.cells #[.int .i64 ge, .int .i64 gn, .slice A2 gd.length c2] 28 (0, 0)) = w1 at *
  have k0 : w1.cell? ⟨w.heap.size, 0, none⟩ = some (.int .i64 k) := (blk_cell q0 0).trans rfl
  have y0 : w1.cell? ⟨w.heap.size + 1, 0, none⟩ = some (.int .i64 we) := (blk_cell q1 0).trans rfl
  have y1 : w1.cell? ⟨w.heap.size + 1, 1, none⟩ = some (.int .i64 wn) := (blk_cell q1 1).trans rfl
  have y2 : w1.cell? ⟨w.heap.size + 1, 2, none⟩ = some (.slice A1 wd.length c1) := (blk_cell q1 2).trans rfl
  have z0 : w1.cell? ⟨w.heap.size + 1 + 1, 0, none⟩ = some (.int .i64 ge) := (blk_cell q2 0).trans rfl
  have z1 : w1.cell? ⟨w.heap.size + 1 + 1, 1, none⟩ = some (.int .i64 gn) := (blk_cell q2 1).trans rfl
  have z2 : w1.cell? ⟨w.heap.size + 1 + 1, 2, none⟩ = some (.slice A2 gd.length c2) := (blk_cell q2 2).trans rfl
  have hr1 := Aside0.mk (fun (W : World) (hW : Below w1.heap.size w1 W) => (⟨(blk_cell (blk_below q0 hW) 0).trans rfl, (blk_cell (blk_below q1 hW) 1).trans rfl, (blk_cell (blk_below q2 hW) 1).trans rfl, (blk_cell (blk_below q2 hW) 2).trans rfl⟩ : W.cell? ⟨w.heap.size, 0, none⟩ = some (.int .i64 k) ∧ W.cell? ⟨w.heap.size + 1, 1, none⟩ = some (.int .i64 wn) ∧ W.cell? ⟨w.heap.size + 1 + 1, 1, none⟩ = some (.int .i64 gn) ∧ W.cell? ⟨w.heap.size + 1 + 1, 2, none⟩ = some (.slice A2 gd.length c2)))
  have hr2 := Aside0.mk (fun (W : World) (hW : Below w1.heap.size w1 W) => (⟨(blk_cell (blk_below q1 hW) 0).trans rfl, (blk_cell (blk_below q1 hW) 2).trans rfl, (blk_cell (blk_below q2 hW) 0).trans rfl⟩ : W.cell? ⟨w.heap.size + 1, 0, none⟩ = some (.int .i64 we) ∧ W.cell? ⟨w.heap.size + 1, 2, none⟩ = some (.slice A1 wd.length c1) ∧ W.cell? ⟨w.heap.size + 1 + 1, 0, none⟩ = some (.int .i64 ge)))
  clear q0 q1 q2
  have hC := Aside0.mk (fun W => gunnyref38_Refusal.calls ge true W hg)
  clear H1 H2 hc1 hc2 hg
  have e0 : (k == 0) = true := beq_iff_eq.mpr hk.out
  clear hk
  have l0 : (((gd.length : Nat) : Int) == 0) = true := by
    rw [← hl, Bool.eq_iff_iff, decide_eq_true_iff, beq_iff_eq]
    omega
  have l1 : (gd.length == 0) = true := by
    rw [← hl, Bool.eq_iff_iff, decide_eq_true_iff, beq_iff_eq]
  clear hl
  generalize gd.length = gl at *
  go_wp2_with (go_at_call 27; refine (hC.out _).mono ?_; rintro e w3 ⟨rfl, hd⟩; obtain ⟨g0, g1, g2, g3⟩ := hr1.out _ hd.below; replace hd := Aside0.mk hd.below)
  go_returns
  exact ⟨rfl, hb.out.trans (Below_low hd.out hb.out.size)⟩

set_option maxHeartbeats 8000000 in
set_option maxRecDepth 100000 in
theorem rfits_ref_0_false (k p n a : Int) (A : Option Addr) (l c : Nat) (we wn : Int) (A1 : Option Addr) (c1 : Nat) (wd : List Int) (ge gn : Int) (A2 : Option Addr) (c2 : Nat) (gd : List Int) (r : Bool) (w : World) (h1 : Kd.C (Kd.int .u8) w A1 wd.length wd) (hc1 : wd.length ≤ c1) (h2 : Kd.C (Kd.int .u8) w A2 gd.length gd) (hc2 : gd.length ≤ c2)
    (hw : (we == 0) = true) (hg : gunnyref38_Refusal.f ge = some true) (hk : k = 0) (hl : decide (gd.length = 0) = false) :
    Calls Try.prog 9 #[.agg #[.int .i64 k, .int .i64 p, .int .i64 n, .int .u64 a, .slice A l c], .agg #[.int .i64 we, .int .i64 wn, .slice A1 wd.length c1], .agg #[.int .i64 ge, .int .i64 gn, .slice A2 gd.length c2]] w fun e w' => e = .returned (.bool false) ∧ Below w.heap.size w w' := by
  have hb := below_alloc (below_alloc (below_alloc (Below.refl _ w) (C25 k p n a A l c)) (C28 we wn A1 wd.length c1)) (C28 ge gn A2 gd.length c2)
  have q0 := blk_alloc (blk_alloc (blk_new w (C25 k p n a A l c)) (C28 we wn A1 wd.length c1)) (C28 ge gn A2 gd.length c2)
  have q1 := blk_alloc (blk_new (w.alloc (C25 k p n a A l c)) (C28 we wn A1 wd.length c1)) (C28 ge gn A2 gd.length c2)
  have q2 := blk_new ((w.alloc (C25 k p n a A l c)).alloc (C28 we wn A1 wd.length c1)) (C28 ge gn A2 gd.length c2)
  rw [World.size_alloc] at q1
  rw [World.size_alloc, World.size_alloc] at q2
  have H1 := Kd.C_below h1 hb
  have H2 := Kd.C_below h2 hb
  unfold C25 C28 at hb q0 q1 q2 H1 H2
  replace hb := Aside0.mk hb
  clear h1 h2
  replace hk := Aside0.mk hk
  go_enter Try.func9, Try.ntmps9
  go_upto_region 1 with fail
  generalize ((w.alloc (.cells #[.int .i64 k, .int .i64 p, .int .i64 n, .int .u64 a, .slice A l c] 25 (0, 0))).alloc (.cells #[.int .i64 we, .int .i64 wn, .slice A1 wd.length c1] 28 (0, 0))).alloc (.cells #[.int .i64 ge, .int .i64 gn, .slice A2 gd.length c2] 28 (0, 0)) = w1 at *
  have k0 : w1.cell? ⟨w.heap.size, 0, none⟩ = some (.int .i64 k) := (blk_cell q0 0).trans rfl
  have y0 : w1.cell? ⟨w.heap.size + 1, 0, none⟩ = some (.int .i64 we) := (blk_cell q1 0).trans rfl
  have y1 : w1.cell? ⟨w.heap.size + 1, 1, none⟩ = some (.int .i64 wn) := (blk_cell q1 1).trans rfl
  have y2 : w1.cell? ⟨w.heap.size + 1, 2, none⟩ = some (.slice A1 wd.length c1) := (blk_cell q1 2).trans rfl
  have z0 : w1.cell? ⟨w.heap.size + 1 + 1, 0, none⟩ = some (.int .i64 ge) := (blk_cell q2 0).trans rfl
  have z1 : w1.cell? ⟨w.heap.size + 1 + 1, 1, none⟩ = some (.int .i64 gn) := (blk_cell q2 1).trans rfl
  have z2 : w1.cell? ⟨w.heap.size + 1 + 1, 2, none⟩ = some (.slice A2 gd.length c2) := (blk_cell q2 2).trans rfl
  have hr1 := Aside0.mk (fun (W : World) (hW : Below w1.heap.size w1 W) => (⟨(blk_cell (blk_below q0 hW) 0).trans rfl, (blk_cell (blk_below q1 hW) 1).trans rfl, (blk_cell (blk_below q2 hW) 1).trans rfl, (blk_cell (blk_below q2 hW) 2).trans rfl⟩ : W.cell? ⟨w.heap.size, 0, none⟩ = some (.int .i64 k) ∧ W.cell? ⟨w.heap.size + 1, 1, none⟩ = some (.int .i64 wn) ∧ W.cell? ⟨w.heap.size + 1 + 1, 1, none⟩ = some (.int .i64 gn) ∧ W.cell? ⟨w.heap.size + 1 + 1, 2, none⟩ = some (.slice A2 gd.length c2)))
  have hr2 := Aside0.mk (fun (W : World) (hW : Below w1.heap.size w1 W) => (⟨(blk_cell (blk_below q1 hW) 0).trans rfl, (blk_cell (blk_below q1 hW) 2).trans rfl, (blk_cell (blk_below q2 hW) 0).trans rfl⟩ : W.cell? ⟨w.heap.size + 1, 0, none⟩ = some (.int .i64 we) ∧ W.cell? ⟨w.heap.size + 1, 2, none⟩ = some (.slice A1 wd.length c1) ∧ W.cell? ⟨w.heap.size + 1 + 1, 0, none⟩ = some (.int .i64 ge)))
  clear q0 q1 q2
  have hC := Aside0.mk (fun W => gunnyref38_Refusal.calls ge true W hg)
  clear H1 H2 hc1 hc2 hg
  have e0 : (k == 0) = true := beq_iff_eq.mpr hk.out
  clear hk
  have l0 : (((gd.length : Nat) : Int) == 0) = false := by
    rw [← hl, Bool.eq_iff_iff, decide_eq_true_iff, beq_iff_eq]
    omega
  have l1 : (gd.length == 0) = false := by
    rw [← hl, Bool.eq_iff_iff, decide_eq_true_iff, beq_iff_eq]
  clear hl
  generalize gd.length = gl at *
  go_wp2_with (go_at_call 27; refine (hC.out _).mono ?_; rintro e w3 ⟨rfl, hd⟩; obtain ⟨g0, g1, g2, g3⟩ := hr1.out _ hd.below; replace hd := Aside0.mk hd.below)
  go_returns
  exact ⟨rfl, hb.out.trans (Below_low hd.out hb.out.size)⟩

set_option maxHeartbeats 8000000 in
set_option maxRecDepth 100000 in
theorem rfits_ref_3_true (k p n a : Int) (A : Option Addr) (l c : Nat) (we wn : Int) (A1 : Option Addr) (c1 : Nat) (wd : List Int) (ge gn : Int) (A2 : Option Addr) (c2 : Nat) (gd : List Int) (r : Bool) (w : World) (h1 : Kd.C (Kd.int .u8) w A1 wd.length wd) (hc1 : wd.length ≤ c1) (h2 : Kd.C (Kd.int .u8) w A2 gd.length gd) (hc2 : gd.length ≤ c2)
    (hw : (we == 0) = true) (hg : gunnyref38_Refusal.f ge = some true) (hk : k = 3) (hl : decide (gd.length = 0) = true) :
    Calls Try.prog 9 #[.agg #[.int .i64 k, .int .i64 p, .int .i64 n, .int .u64 a, .slice A l c], .agg #[.int .i64 we, .int .i64 wn, .slice A1 wd.length c1], .agg #[.int .i64 ge, .int .i64 gn, .slice A2 gd.length c2]] w fun e w' => e = .returned (.bool true) ∧ Below w.heap.size w w' := by
  have hb := below_alloc (below_alloc (below_alloc (Below.refl _ w) (C25 k p n a A l c)) (C28 we wn A1 wd.length c1)) (C28 ge gn A2 gd.length c2)
  have q0 := blk_alloc (blk_alloc (blk_new w (C25 k p n a A l c)) (C28 we wn A1 wd.length c1)) (C28 ge gn A2 gd.length c2)
  have q1 := blk_alloc (blk_new (w.alloc (C25 k p n a A l c)) (C28 we wn A1 wd.length c1)) (C28 ge gn A2 gd.length c2)
  have q2 := blk_new ((w.alloc (C25 k p n a A l c)).alloc (C28 we wn A1 wd.length c1)) (C28 ge gn A2 gd.length c2)
  rw [World.size_alloc] at q1
  rw [World.size_alloc, World.size_alloc] at q2
  have H1 := Kd.C_below h1 hb
  have H2 := Kd.C_below h2 hb
  unfold C25 C28 at hb q0 q1 q2 H1 H2
  replace hb := Aside0.mk hb
  clear h1 h2
  replace hk := Aside0.mk hk
  go_enter Try.func9, Try.ntmps9
  go_upto_region 1 with fail
  generalize ((w.alloc (.cells #[.int .i64 k, .int .i64 p, .int .i64 n, .int .u64 a, .slice A l c] 25 (0, 0))).alloc (.cells #[.int .i64 we, .int .i64 wn, .slice A1 wd.length c1] 28 (0, 0))).alloc (.cells #[.int .i64 ge, .int .i64 gn, .slice A2 gd.length c2] 28 (0, 0)) = w1 at *
  have k0 : w1.cell? ⟨w.heap.size, 0, none⟩ = some (.int .i64 k) := (blk_cell q0 0).trans rfl
  have y0 : w1.cell? ⟨w.heap.size + 1, 0, none⟩ = some (.int .i64 we) := (blk_cell q1 0).trans rfl
  have y1 : w1.cell? ⟨w.heap.size + 1, 1, none⟩ = some (.int .i64 wn) := (blk_cell q1 1).trans rfl
  have y2 : w1.cell? ⟨w.heap.size + 1, 2, none⟩ = some (.slice A1 wd.length c1) := (blk_cell q1 2).trans rfl
  have z0 : w1.cell? ⟨w.heap.size + 1 + 1, 0, none⟩ = some (.int .i64 ge) := (blk_cell q2 0).trans rfl
  have z1 : w1.cell? ⟨w.heap.size + 1 + 1, 1, none⟩ = some (.int .i64 gn) := (blk_cell q2 1).trans rfl
  have z2 : w1.cell? ⟨w.heap.size + 1 + 1, 2, none⟩ = some (.slice A2 gd.length c2) := (blk_cell q2 2).trans rfl
  have hr1 := Aside0.mk (fun (W : World) (hW : Below w1.heap.size w1 W) => (⟨(blk_cell (blk_below q0 hW) 0).trans rfl, (blk_cell (blk_below q1 hW) 1).trans rfl, (blk_cell (blk_below q2 hW) 1).trans rfl, (blk_cell (blk_below q2 hW) 2).trans rfl⟩ : W.cell? ⟨w.heap.size, 0, none⟩ = some (.int .i64 k) ∧ W.cell? ⟨w.heap.size + 1, 1, none⟩ = some (.int .i64 wn) ∧ W.cell? ⟨w.heap.size + 1 + 1, 1, none⟩ = some (.int .i64 gn) ∧ W.cell? ⟨w.heap.size + 1 + 1, 2, none⟩ = some (.slice A2 gd.length c2)))
  have hr2 := Aside0.mk (fun (W : World) (hW : Below w1.heap.size w1 W) => (⟨(blk_cell (blk_below q1 hW) 0).trans rfl, (blk_cell (blk_below q1 hW) 2).trans rfl, (blk_cell (blk_below q2 hW) 0).trans rfl⟩ : W.cell? ⟨w.heap.size + 1, 0, none⟩ = some (.int .i64 we) ∧ W.cell? ⟨w.heap.size + 1, 2, none⟩ = some (.slice A1 wd.length c1) ∧ W.cell? ⟨w.heap.size + 1 + 1, 0, none⟩ = some (.int .i64 ge)))
  clear q0 q1 q2
  have hC := Aside0.mk (fun W => gunnyref38_Refusal.calls ge true W hg)
  clear H1 H2 hc1 hc2 hg
  have e0 : (k == 0) = false := beq_eq_false_iff_ne.mpr (by have := hk.out; omega)
  have e3 : (k == 3) = true := beq_iff_eq.mpr hk.out
  clear hk
  have l0 : (((gd.length : Nat) : Int) == 0) = true := by
    rw [← hl, Bool.eq_iff_iff, decide_eq_true_iff, beq_iff_eq]
    omega
  have l1 : (gd.length == 0) = true := by
    rw [← hl, Bool.eq_iff_iff, decide_eq_true_iff, beq_iff_eq]
  clear hl
  generalize gd.length = gl at *
  go_wp2_with (go_at_call 27; refine (hC.out _).mono ?_; rintro e w3 ⟨rfl, hd⟩; obtain ⟨g0, g1, g2, g3⟩ := hr1.out _ hd.below; replace hd := Aside0.mk hd.below)
  go_returns
  exact ⟨rfl, hb.out.trans (Below_low hd.out hb.out.size)⟩

set_option maxHeartbeats 8000000 in
set_option maxRecDepth 100000 in
theorem rfits_ref_3_false (k p n a : Int) (A : Option Addr) (l c : Nat) (we wn : Int) (A1 : Option Addr) (c1 : Nat) (wd : List Int) (ge gn : Int) (A2 : Option Addr) (c2 : Nat) (gd : List Int) (r : Bool) (w : World) (h1 : Kd.C (Kd.int .u8) w A1 wd.length wd) (hc1 : wd.length ≤ c1) (h2 : Kd.C (Kd.int .u8) w A2 gd.length gd) (hc2 : gd.length ≤ c2)
    (hw : (we == 0) = true) (hg : gunnyref38_Refusal.f ge = some true) (hk : k = 3) (hl : decide (gd.length = 0) = false) :
    Calls Try.prog 9 #[.agg #[.int .i64 k, .int .i64 p, .int .i64 n, .int .u64 a, .slice A l c], .agg #[.int .i64 we, .int .i64 wn, .slice A1 wd.length c1], .agg #[.int .i64 ge, .int .i64 gn, .slice A2 gd.length c2]] w fun e w' => e = .returned (.bool false) ∧ Below w.heap.size w w' := by
  have hb := below_alloc (below_alloc (below_alloc (Below.refl _ w) (C25 k p n a A l c)) (C28 we wn A1 wd.length c1)) (C28 ge gn A2 gd.length c2)
  have q0 := blk_alloc (blk_alloc (blk_new w (C25 k p n a A l c)) (C28 we wn A1 wd.length c1)) (C28 ge gn A2 gd.length c2)
  have q1 := blk_alloc (blk_new (w.alloc (C25 k p n a A l c)) (C28 we wn A1 wd.length c1)) (C28 ge gn A2 gd.length c2)
  have q2 := blk_new ((w.alloc (C25 k p n a A l c)).alloc (C28 we wn A1 wd.length c1)) (C28 ge gn A2 gd.length c2)
  rw [World.size_alloc] at q1
  rw [World.size_alloc, World.size_alloc] at q2
  have H1 := Kd.C_below h1 hb
  have H2 := Kd.C_below h2 hb
  unfold C25 C28 at hb q0 q1 q2 H1 H2
  replace hb := Aside0.mk hb
  clear h1 h2
  replace hk := Aside0.mk hk
  go_enter Try.func9, Try.ntmps9
  go_upto_region 1 with fail
  generalize ((w.alloc (.cells #[.int .i64 k, .int .i64 p, .int .i64 n, .int .u64 a, .slice A l c] 25 (0, 0))).alloc (.cells #[.int .i64 we, .int .i64 wn, .slice A1 wd.length c1] 28 (0, 0))).alloc (.cells #[.int .i64 ge, .int .i64 gn, .slice A2 gd.length c2] 28 (0, 0)) = w1 at *
  have k0 : w1.cell? ⟨w.heap.size, 0, none⟩ = some (.int .i64 k) := (blk_cell q0 0).trans rfl
  have y0 : w1.cell? ⟨w.heap.size + 1, 0, none⟩ = some (.int .i64 we) := (blk_cell q1 0).trans rfl
  have y1 : w1.cell? ⟨w.heap.size + 1, 1, none⟩ = some (.int .i64 wn) := (blk_cell q1 1).trans rfl
  have y2 : w1.cell? ⟨w.heap.size + 1, 2, none⟩ = some (.slice A1 wd.length c1) := (blk_cell q1 2).trans rfl
  have z0 : w1.cell? ⟨w.heap.size + 1 + 1, 0, none⟩ = some (.int .i64 ge) := (blk_cell q2 0).trans rfl
  have z1 : w1.cell? ⟨w.heap.size + 1 + 1, 1, none⟩ = some (.int .i64 gn) := (blk_cell q2 1).trans rfl
  have z2 : w1.cell? ⟨w.heap.size + 1 + 1, 2, none⟩ = some (.slice A2 gd.length c2) := (blk_cell q2 2).trans rfl
  have hr1 := Aside0.mk (fun (W : World) (hW : Below w1.heap.size w1 W) => (⟨(blk_cell (blk_below q0 hW) 0).trans rfl, (blk_cell (blk_below q1 hW) 1).trans rfl, (blk_cell (blk_below q2 hW) 1).trans rfl, (blk_cell (blk_below q2 hW) 2).trans rfl⟩ : W.cell? ⟨w.heap.size, 0, none⟩ = some (.int .i64 k) ∧ W.cell? ⟨w.heap.size + 1, 1, none⟩ = some (.int .i64 wn) ∧ W.cell? ⟨w.heap.size + 1 + 1, 1, none⟩ = some (.int .i64 gn) ∧ W.cell? ⟨w.heap.size + 1 + 1, 2, none⟩ = some (.slice A2 gd.length c2)))
  have hr2 := Aside0.mk (fun (W : World) (hW : Below w1.heap.size w1 W) => (⟨(blk_cell (blk_below q1 hW) 0).trans rfl, (blk_cell (blk_below q1 hW) 2).trans rfl, (blk_cell (blk_below q2 hW) 0).trans rfl⟩ : W.cell? ⟨w.heap.size + 1, 0, none⟩ = some (.int .i64 we) ∧ W.cell? ⟨w.heap.size + 1, 2, none⟩ = some (.slice A1 wd.length c1) ∧ W.cell? ⟨w.heap.size + 1 + 1, 0, none⟩ = some (.int .i64 ge)))
  clear q0 q1 q2
  have hC := Aside0.mk (fun W => gunnyref38_Refusal.calls ge true W hg)
  clear H1 H2 hc1 hc2 hg
  have e0 : (k == 0) = false := beq_eq_false_iff_ne.mpr (by have := hk.out; omega)
  have e3 : (k == 3) = true := beq_iff_eq.mpr hk.out
  clear hk
  have l0 : (((gd.length : Nat) : Int) == 0) = false := by
    rw [← hl, Bool.eq_iff_iff, decide_eq_true_iff, beq_iff_eq]
    omega
  have l1 : (gd.length == 0) = false := by
    rw [← hl, Bool.eq_iff_iff, decide_eq_true_iff, beq_iff_eq]
  clear hl
  generalize gd.length = gl at *
  go_wp2_with (go_at_call 27; refine (hC.out _).mono ?_; rintro e w3 ⟨rfl, hd⟩; obtain ⟨g0, g1, g2, g3⟩ := hr1.out _ hd.below; replace hd := Aside0.mk hd.below)
  go_returns
  exact ⟨rfl, hb.out.trans (Below_low hd.out hb.out.size)⟩

set_option maxHeartbeats 8000000 in
set_option maxRecDepth 100000 in
theorem rfits_ref_5_true (k p n a : Int) (A : Option Addr) (l c : Nat) (we wn : Int) (A1 : Option Addr) (c1 : Nat) (wd : List Int) (ge gn : Int) (A2 : Option Addr) (c2 : Nat) (gd : List Int) (r : Bool) (w : World) (h1 : Kd.C (Kd.int .u8) w A1 wd.length wd) (hc1 : wd.length ≤ c1) (h2 : Kd.C (Kd.int .u8) w A2 gd.length gd) (hc2 : gd.length ≤ c2)
    (hw : (we == 0) = true) (hg : gunnyref38_Refusal.f ge = some true) (hk : k = 5) (hl : decide (gd.length = 0) = true) :
    Calls Try.prog 9 #[.agg #[.int .i64 k, .int .i64 p, .int .i64 n, .int .u64 a, .slice A l c], .agg #[.int .i64 we, .int .i64 wn, .slice A1 wd.length c1], .agg #[.int .i64 ge, .int .i64 gn, .slice A2 gd.length c2]] w fun e w' => e = .returned (.bool true) ∧ Below w.heap.size w w' := by
  have hb := below_alloc (below_alloc (below_alloc (Below.refl _ w) (C25 k p n a A l c)) (C28 we wn A1 wd.length c1)) (C28 ge gn A2 gd.length c2)
  have q0 := blk_alloc (blk_alloc (blk_new w (C25 k p n a A l c)) (C28 we wn A1 wd.length c1)) (C28 ge gn A2 gd.length c2)
  have q1 := blk_alloc (blk_new (w.alloc (C25 k p n a A l c)) (C28 we wn A1 wd.length c1)) (C28 ge gn A2 gd.length c2)
  have q2 := blk_new ((w.alloc (C25 k p n a A l c)).alloc (C28 we wn A1 wd.length c1)) (C28 ge gn A2 gd.length c2)
  rw [World.size_alloc] at q1
  rw [World.size_alloc, World.size_alloc] at q2
  have H1 := Kd.C_below h1 hb
  have H2 := Kd.C_below h2 hb
  unfold C25 C28 at hb q0 q1 q2 H1 H2
  replace hb := Aside0.mk hb
  clear h1 h2
  replace hk := Aside0.mk hk
  go_enter Try.func9, Try.ntmps9
  go_upto_region 1 with fail
  generalize ((w.alloc (.cells #[.int .i64 k, .int .i64 p, .int .i64 n, .int .u64 a, .slice A l c] 25 (0, 0))).alloc (.cells #[.int .i64 we, .int .i64 wn, .slice A1 wd.length c1] 28 (0, 0))).alloc (.cells #[.int .i64 ge, .int .i64 gn, .slice A2 gd.length c2] 28 (0, 0)) = w1 at *
  have k0 : w1.cell? ⟨w.heap.size, 0, none⟩ = some (.int .i64 k) := (blk_cell q0 0).trans rfl
  have y0 : w1.cell? ⟨w.heap.size + 1, 0, none⟩ = some (.int .i64 we) := (blk_cell q1 0).trans rfl
  have y1 : w1.cell? ⟨w.heap.size + 1, 1, none⟩ = some (.int .i64 wn) := (blk_cell q1 1).trans rfl
  have y2 : w1.cell? ⟨w.heap.size + 1, 2, none⟩ = some (.slice A1 wd.length c1) := (blk_cell q1 2).trans rfl
  have z0 : w1.cell? ⟨w.heap.size + 1 + 1, 0, none⟩ = some (.int .i64 ge) := (blk_cell q2 0).trans rfl
  have z1 : w1.cell? ⟨w.heap.size + 1 + 1, 1, none⟩ = some (.int .i64 gn) := (blk_cell q2 1).trans rfl
  have z2 : w1.cell? ⟨w.heap.size + 1 + 1, 2, none⟩ = some (.slice A2 gd.length c2) := (blk_cell q2 2).trans rfl
  have hr1 := Aside0.mk (fun (W : World) (hW : Below w1.heap.size w1 W) => (⟨(blk_cell (blk_below q0 hW) 0).trans rfl, (blk_cell (blk_below q1 hW) 1).trans rfl, (blk_cell (blk_below q2 hW) 1).trans rfl, (blk_cell (blk_below q2 hW) 2).trans rfl⟩ : W.cell? ⟨w.heap.size, 0, none⟩ = some (.int .i64 k) ∧ W.cell? ⟨w.heap.size + 1, 1, none⟩ = some (.int .i64 wn) ∧ W.cell? ⟨w.heap.size + 1 + 1, 1, none⟩ = some (.int .i64 gn) ∧ W.cell? ⟨w.heap.size + 1 + 1, 2, none⟩ = some (.slice A2 gd.length c2)))
  have hr2 := Aside0.mk (fun (W : World) (hW : Below w1.heap.size w1 W) => (⟨(blk_cell (blk_below q1 hW) 0).trans rfl, (blk_cell (blk_below q1 hW) 2).trans rfl, (blk_cell (blk_below q2 hW) 0).trans rfl⟩ : W.cell? ⟨w.heap.size + 1, 0, none⟩ = some (.int .i64 we) ∧ W.cell? ⟨w.heap.size + 1, 2, none⟩ = some (.slice A1 wd.length c1) ∧ W.cell? ⟨w.heap.size + 1 + 1, 0, none⟩ = some (.int .i64 ge)))
  clear q0 q1 q2
  have hC := Aside0.mk (fun W => gunnyref38_Refusal.calls ge true W hg)
  clear H1 H2 hc1 hc2 hg
  have e0 : (k == 0) = false := beq_eq_false_iff_ne.mpr (by have := hk.out; omega)
  have e3 : (k == 3) = false := beq_eq_false_iff_ne.mpr (by have := hk.out; omega)
  have e5 : (k == 5) = true := beq_iff_eq.mpr hk.out
  clear hk
  have l0 : (((gd.length : Nat) : Int) == 0) = true := by
    rw [← hl, Bool.eq_iff_iff, decide_eq_true_iff, beq_iff_eq]
    omega
  have l1 : (gd.length == 0) = true := by
    rw [← hl, Bool.eq_iff_iff, decide_eq_true_iff, beq_iff_eq]
  clear hl
  generalize gd.length = gl at *
  go_wp2_with (go_at_call 27; refine (hC.out _).mono ?_; rintro e w3 ⟨rfl, hd⟩; obtain ⟨g0, g1, g2, g3⟩ := hr1.out _ hd.below; replace hd := Aside0.mk hd.below)
  go_returns
  exact ⟨rfl, hb.out.trans (Below_low hd.out hb.out.size)⟩

set_option maxHeartbeats 8000000 in
set_option maxRecDepth 100000 in
theorem rfits_ref_5_false (k p n a : Int) (A : Option Addr) (l c : Nat) (we wn : Int) (A1 : Option Addr) (c1 : Nat) (wd : List Int) (ge gn : Int) (A2 : Option Addr) (c2 : Nat) (gd : List Int) (r : Bool) (w : World) (h1 : Kd.C (Kd.int .u8) w A1 wd.length wd) (hc1 : wd.length ≤ c1) (h2 : Kd.C (Kd.int .u8) w A2 gd.length gd) (hc2 : gd.length ≤ c2)
    (hw : (we == 0) = true) (hg : gunnyref38_Refusal.f ge = some true) (hk : k = 5) (hl : decide (gd.length = 0) = false) :
    Calls Try.prog 9 #[.agg #[.int .i64 k, .int .i64 p, .int .i64 n, .int .u64 a, .slice A l c], .agg #[.int .i64 we, .int .i64 wn, .slice A1 wd.length c1], .agg #[.int .i64 ge, .int .i64 gn, .slice A2 gd.length c2]] w fun e w' => e = .returned (.bool false) ∧ Below w.heap.size w w' := by
  have hb := below_alloc (below_alloc (below_alloc (Below.refl _ w) (C25 k p n a A l c)) (C28 we wn A1 wd.length c1)) (C28 ge gn A2 gd.length c2)
  have q0 := blk_alloc (blk_alloc (blk_new w (C25 k p n a A l c)) (C28 we wn A1 wd.length c1)) (C28 ge gn A2 gd.length c2)
  have q1 := blk_alloc (blk_new (w.alloc (C25 k p n a A l c)) (C28 we wn A1 wd.length c1)) (C28 ge gn A2 gd.length c2)
  have q2 := blk_new ((w.alloc (C25 k p n a A l c)).alloc (C28 we wn A1 wd.length c1)) (C28 ge gn A2 gd.length c2)
  rw [World.size_alloc] at q1
  rw [World.size_alloc, World.size_alloc] at q2
  have H1 := Kd.C_below h1 hb
  have H2 := Kd.C_below h2 hb
  unfold C25 C28 at hb q0 q1 q2 H1 H2
  replace hb := Aside0.mk hb
  clear h1 h2
  replace hk := Aside0.mk hk
  go_enter Try.func9, Try.ntmps9
  go_upto_region 1 with fail
  generalize ((w.alloc (.cells #[.int .i64 k, .int .i64 p, .int .i64 n, .int .u64 a, .slice A l c] 25 (0, 0))).alloc (.cells #[.int .i64 we, .int .i64 wn, .slice A1 wd.length c1] 28 (0, 0))).alloc (.cells #[.int .i64 ge, .int .i64 gn, .slice A2 gd.length c2] 28 (0, 0)) = w1 at *
  have k0 : w1.cell? ⟨w.heap.size, 0, none⟩ = some (.int .i64 k) := (blk_cell q0 0).trans rfl
  have y0 : w1.cell? ⟨w.heap.size + 1, 0, none⟩ = some (.int .i64 we) := (blk_cell q1 0).trans rfl
  have y1 : w1.cell? ⟨w.heap.size + 1, 1, none⟩ = some (.int .i64 wn) := (blk_cell q1 1).trans rfl
  have y2 : w1.cell? ⟨w.heap.size + 1, 2, none⟩ = some (.slice A1 wd.length c1) := (blk_cell q1 2).trans rfl
  have z0 : w1.cell? ⟨w.heap.size + 1 + 1, 0, none⟩ = some (.int .i64 ge) := (blk_cell q2 0).trans rfl
  have z1 : w1.cell? ⟨w.heap.size + 1 + 1, 1, none⟩ = some (.int .i64 gn) := (blk_cell q2 1).trans rfl
  have z2 : w1.cell? ⟨w.heap.size + 1 + 1, 2, none⟩ = some (.slice A2 gd.length c2) := (blk_cell q2 2).trans rfl
  have hr1 := Aside0.mk (fun (W : World) (hW : Below w1.heap.size w1 W) => (⟨(blk_cell (blk_below q0 hW) 0).trans rfl, (blk_cell (blk_below q1 hW) 1).trans rfl, (blk_cell (blk_below q2 hW) 1).trans rfl, (blk_cell (blk_below q2 hW) 2).trans rfl⟩ : W.cell? ⟨w.heap.size, 0, none⟩ = some (.int .i64 k) ∧ W.cell? ⟨w.heap.size + 1, 1, none⟩ = some (.int .i64 wn) ∧ W.cell? ⟨w.heap.size + 1 + 1, 1, none⟩ = some (.int .i64 gn) ∧ W.cell? ⟨w.heap.size + 1 + 1, 2, none⟩ = some (.slice A2 gd.length c2)))
  have hr2 := Aside0.mk (fun (W : World) (hW : Below w1.heap.size w1 W) => (⟨(blk_cell (blk_below q1 hW) 0).trans rfl, (blk_cell (blk_below q1 hW) 2).trans rfl, (blk_cell (blk_below q2 hW) 0).trans rfl⟩ : W.cell? ⟨w.heap.size + 1, 0, none⟩ = some (.int .i64 we) ∧ W.cell? ⟨w.heap.size + 1, 2, none⟩ = some (.slice A1 wd.length c1) ∧ W.cell? ⟨w.heap.size + 1 + 1, 0, none⟩ = some (.int .i64 ge)))
  clear q0 q1 q2
  have hC := Aside0.mk (fun W => gunnyref38_Refusal.calls ge true W hg)
  clear H1 H2 hc1 hc2 hg
  have e0 : (k == 0) = false := beq_eq_false_iff_ne.mpr (by have := hk.out; omega)
  have e3 : (k == 3) = false := beq_eq_false_iff_ne.mpr (by have := hk.out; omega)
  have e5 : (k == 5) = true := beq_iff_eq.mpr hk.out
  clear hk
  have l0 : (((gd.length : Nat) : Int) == 0) = false := by
    rw [← hl, Bool.eq_iff_iff, decide_eq_true_iff, beq_iff_eq]
    omega
  have l1 : (gd.length == 0) = false := by
    rw [← hl, Bool.eq_iff_iff, decide_eq_true_iff, beq_iff_eq]
  clear hl
  generalize gd.length = gl at *
  go_wp2_with (go_at_call 27; refine (hC.out _).mono ?_; rintro e w3 ⟨rfl, hd⟩; obtain ⟨g0, g1, g2, g3⟩ := hr1.out _ hd.below; replace hd := Aside0.mk hd.below)
  go_returns
  exact ⟨rfl, hb.out.trans (Below_low hd.out hb.out.size)⟩

set_option maxHeartbeats 8000000 in
set_option maxRecDepth 100000 in
theorem rfits_ref_4_true (k p n a : Int) (A : Option Addr) (l c : Nat) (we wn : Int) (A1 : Option Addr) (c1 : Nat) (wd : List Int) (ge gn : Int) (A2 : Option Addr) (c2 : Nat) (gd : List Int) (r : Bool) (w : World) (h1 : Kd.C (Kd.int .u8) w A1 wd.length wd) (hc1 : wd.length ≤ c1) (h2 : Kd.C (Kd.int .u8) w A2 gd.length gd) (hc2 : gd.length ≤ c2)
    (hw : (we == 0) = true) (hg : gunnyref38_Refusal.f ge = some true) (hk : k = 4) (hl : decide (gd.length = 0) = true) :
    Calls Try.prog 9 #[.agg #[.int .i64 k, .int .i64 p, .int .i64 n, .int .u64 a, .slice A l c], .agg #[.int .i64 we, .int .i64 wn, .slice A1 wd.length c1], .agg #[.int .i64 ge, .int .i64 gn, .slice A2 gd.length c2]] w fun e w' => e = .returned (.bool true) ∧ Below w.heap.size w w' := by
  have hb := below_alloc (below_alloc (below_alloc (Below.refl _ w) (C25 k p n a A l c)) (C28 we wn A1 wd.length c1)) (C28 ge gn A2 gd.length c2)
  have q0 := blk_alloc (blk_alloc (blk_new w (C25 k p n a A l c)) (C28 we wn A1 wd.length c1)) (C28 ge gn A2 gd.length c2)
  have q1 := blk_alloc (blk_new (w.alloc (C25 k p n a A l c)) (C28 we wn A1 wd.length c1)) (C28 ge gn A2 gd.length c2)
  have q2 := blk_new ((w.alloc (C25 k p n a A l c)).alloc (C28 we wn A1 wd.length c1)) (C28 ge gn A2 gd.length c2)
  rw [World.size_alloc] at q1
  rw [World.size_alloc, World.size_alloc] at q2
  have H1 := Kd.C_below h1 hb
  have H2 := Kd.C_below h2 hb
  unfold C25 C28 at hb q0 q1 q2 H1 H2
  replace hb := Aside0.mk hb
  clear h1 h2
  replace hk := Aside0.mk hk
  go_enter Try.func9, Try.ntmps9
  go_upto_region 1 with fail
  generalize ((w.alloc (.cells #[.int .i64 k, .int .i64 p, .int .i64 n, .int .u64 a, .slice A l c] 25 (0, 0))).alloc (.cells #[.int .i64 we, .int .i64 wn, .slice A1 wd.length c1] 28 (0, 0))).alloc (.cells #[.int .i64 ge, .int .i64 gn, .slice A2 gd.length c2] 28 (0, 0)) = w1 at *
  have k0 : w1.cell? ⟨w.heap.size, 0, none⟩ = some (.int .i64 k) := (blk_cell q0 0).trans rfl
  have y0 : w1.cell? ⟨w.heap.size + 1, 0, none⟩ = some (.int .i64 we) := (blk_cell q1 0).trans rfl
  have y1 : w1.cell? ⟨w.heap.size + 1, 1, none⟩ = some (.int .i64 wn) := (blk_cell q1 1).trans rfl
  have y2 : w1.cell? ⟨w.heap.size + 1, 2, none⟩ = some (.slice A1 wd.length c1) := (blk_cell q1 2).trans rfl
  have z0 : w1.cell? ⟨w.heap.size + 1 + 1, 0, none⟩ = some (.int .i64 ge) := (blk_cell q2 0).trans rfl
  have z1 : w1.cell? ⟨w.heap.size + 1 + 1, 1, none⟩ = some (.int .i64 gn) := (blk_cell q2 1).trans rfl
  have z2 : w1.cell? ⟨w.heap.size + 1 + 1, 2, none⟩ = some (.slice A2 gd.length c2) := (blk_cell q2 2).trans rfl
  have hr1 := Aside0.mk (fun (W : World) (hW : Below w1.heap.size w1 W) => (⟨(blk_cell (blk_below q0 hW) 0).trans rfl, (blk_cell (blk_below q1 hW) 1).trans rfl, (blk_cell (blk_below q2 hW) 1).trans rfl, (blk_cell (blk_below q2 hW) 2).trans rfl⟩ : W.cell? ⟨w.heap.size, 0, none⟩ = some (.int .i64 k) ∧ W.cell? ⟨w.heap.size + 1, 1, none⟩ = some (.int .i64 wn) ∧ W.cell? ⟨w.heap.size + 1 + 1, 1, none⟩ = some (.int .i64 gn) ∧ W.cell? ⟨w.heap.size + 1 + 1, 2, none⟩ = some (.slice A2 gd.length c2)))
  have hr2 := Aside0.mk (fun (W : World) (hW : Below w1.heap.size w1 W) => (⟨(blk_cell (blk_below q1 hW) 0).trans rfl, (blk_cell (blk_below q1 hW) 2).trans rfl, (blk_cell (blk_below q2 hW) 0).trans rfl⟩ : W.cell? ⟨w.heap.size + 1, 0, none⟩ = some (.int .i64 we) ∧ W.cell? ⟨w.heap.size + 1, 2, none⟩ = some (.slice A1 wd.length c1) ∧ W.cell? ⟨w.heap.size + 1 + 1, 0, none⟩ = some (.int .i64 ge)))
  clear q0 q1 q2
  have hC := Aside0.mk (fun W => gunnyref38_Refusal.calls ge true W hg)
  clear H1 H2 hc1 hc2 hg
  have e0 : (k == 0) = false := beq_eq_false_iff_ne.mpr (by have := hk.out; omega)
  have e3 : (k == 3) = false := beq_eq_false_iff_ne.mpr (by have := hk.out; omega)
  have e5 : (k == 5) = false := beq_eq_false_iff_ne.mpr (by have := hk.out; omega)
  have e4 : (k == 4) = true := beq_iff_eq.mpr hk.out
  clear hk
  have l0 : (((gd.length : Nat) : Int) == 0) = true := by
    rw [← hl, Bool.eq_iff_iff, decide_eq_true_iff, beq_iff_eq]
    omega
  have l1 : (gd.length == 0) = true := by
    rw [← hl, Bool.eq_iff_iff, decide_eq_true_iff, beq_iff_eq]
  clear hl
  generalize gd.length = gl at *
  go_wp2_with (go_at_call 27; refine (hC.out _).mono ?_; rintro e w3 ⟨rfl, hd⟩; obtain ⟨g0, g1, g2, g3⟩ := hr1.out _ hd.below; replace hd := Aside0.mk hd.below)
  go_returns
  exact ⟨rfl, hb.out.trans (Below_low hd.out hb.out.size)⟩

set_option maxHeartbeats 8000000 in
set_option maxRecDepth 100000 in
theorem rfits_ref_4_false (k p n a : Int) (A : Option Addr) (l c : Nat) (we wn : Int) (A1 : Option Addr) (c1 : Nat) (wd : List Int) (ge gn : Int) (A2 : Option Addr) (c2 : Nat) (gd : List Int) (r : Bool) (w : World) (h1 : Kd.C (Kd.int .u8) w A1 wd.length wd) (hc1 : wd.length ≤ c1) (h2 : Kd.C (Kd.int .u8) w A2 gd.length gd) (hc2 : gd.length ≤ c2)
    (hw : (we == 0) = true) (hg : gunnyref38_Refusal.f ge = some true) (hk : k = 4) (hl : decide (gd.length = 0) = false) :
    Calls Try.prog 9 #[.agg #[.int .i64 k, .int .i64 p, .int .i64 n, .int .u64 a, .slice A l c], .agg #[.int .i64 we, .int .i64 wn, .slice A1 wd.length c1], .agg #[.int .i64 ge, .int .i64 gn, .slice A2 gd.length c2]] w fun e w' => e = .returned (.bool false) ∧ Below w.heap.size w w' := by
  have hb := below_alloc (below_alloc (below_alloc (Below.refl _ w) (C25 k p n a A l c)) (C28 we wn A1 wd.length c1)) (C28 ge gn A2 gd.length c2)
  have q0 := blk_alloc (blk_alloc (blk_new w (C25 k p n a A l c)) (C28 we wn A1 wd.length c1)) (C28 ge gn A2 gd.length c2)
  have q1 := blk_alloc (blk_new (w.alloc (C25 k p n a A l c)) (C28 we wn A1 wd.length c1)) (C28 ge gn A2 gd.length c2)
  have q2 := blk_new ((w.alloc (C25 k p n a A l c)).alloc (C28 we wn A1 wd.length c1)) (C28 ge gn A2 gd.length c2)
  rw [World.size_alloc] at q1
  rw [World.size_alloc, World.size_alloc] at q2
  have H1 := Kd.C_below h1 hb
  have H2 := Kd.C_below h2 hb
  unfold C25 C28 at hb q0 q1 q2 H1 H2
  replace hb := Aside0.mk hb
  clear h1 h2
  replace hk := Aside0.mk hk
  go_enter Try.func9, Try.ntmps9
  go_upto_region 1 with fail
  generalize ((w.alloc (.cells #[.int .i64 k, .int .i64 p, .int .i64 n, .int .u64 a, .slice A l c] 25 (0, 0))).alloc (.cells #[.int .i64 we, .int .i64 wn, .slice A1 wd.length c1] 28 (0, 0))).alloc (.cells #[.int .i64 ge, .int .i64 gn, .slice A2 gd.length c2] 28 (0, 0)) = w1 at *
  have k0 : w1.cell? ⟨w.heap.size, 0, none⟩ = some (.int .i64 k) := (blk_cell q0 0).trans rfl
  have y0 : w1.cell? ⟨w.heap.size + 1, 0, none⟩ = some (.int .i64 we) := (blk_cell q1 0).trans rfl
  have y1 : w1.cell? ⟨w.heap.size + 1, 1, none⟩ = some (.int .i64 wn) := (blk_cell q1 1).trans rfl
  have y2 : w1.cell? ⟨w.heap.size + 1, 2, none⟩ = some (.slice A1 wd.length c1) := (blk_cell q1 2).trans rfl
  have z0 : w1.cell? ⟨w.heap.size + 1 + 1, 0, none⟩ = some (.int .i64 ge) := (blk_cell q2 0).trans rfl
  have z1 : w1.cell? ⟨w.heap.size + 1 + 1, 1, none⟩ = some (.int .i64 gn) := (blk_cell q2 1).trans rfl
  have z2 : w1.cell? ⟨w.heap.size + 1 + 1, 2, none⟩ = some (.slice A2 gd.length c2) := (blk_cell q2 2).trans rfl
  have hr1 := Aside0.mk (fun (W : World) (hW : Below w1.heap.size w1 W) => (⟨(blk_cell (blk_below q0 hW) 0).trans rfl, (blk_cell (blk_below q1 hW) 1).trans rfl, (blk_cell (blk_below q2 hW) 1).trans rfl, (blk_cell (blk_below q2 hW) 2).trans rfl⟩ : W.cell? ⟨w.heap.size, 0, none⟩ = some (.int .i64 k) ∧ W.cell? ⟨w.heap.size + 1, 1, none⟩ = some (.int .i64 wn) ∧ W.cell? ⟨w.heap.size + 1 + 1, 1, none⟩ = some (.int .i64 gn) ∧ W.cell? ⟨w.heap.size + 1 + 1, 2, none⟩ = some (.slice A2 gd.length c2)))
  have hr2 := Aside0.mk (fun (W : World) (hW : Below w1.heap.size w1 W) => (⟨(blk_cell (blk_below q1 hW) 0).trans rfl, (blk_cell (blk_below q1 hW) 2).trans rfl, (blk_cell (blk_below q2 hW) 0).trans rfl⟩ : W.cell? ⟨w.heap.size + 1, 0, none⟩ = some (.int .i64 we) ∧ W.cell? ⟨w.heap.size + 1, 2, none⟩ = some (.slice A1 wd.length c1) ∧ W.cell? ⟨w.heap.size + 1 + 1, 0, none⟩ = some (.int .i64 ge)))
  clear q0 q1 q2
  have hC := Aside0.mk (fun W => gunnyref38_Refusal.calls ge true W hg)
  clear H1 H2 hc1 hc2 hg
  have e0 : (k == 0) = false := beq_eq_false_iff_ne.mpr (by have := hk.out; omega)
  have e3 : (k == 3) = false := beq_eq_false_iff_ne.mpr (by have := hk.out; omega)
  have e5 : (k == 5) = false := beq_eq_false_iff_ne.mpr (by have := hk.out; omega)
  have e4 : (k == 4) = true := beq_iff_eq.mpr hk.out
  clear hk
  have l0 : (((gd.length : Nat) : Int) == 0) = false := by
    rw [← hl, Bool.eq_iff_iff, decide_eq_true_iff, beq_iff_eq]
    omega
  have l1 : (gd.length == 0) = false := by
    rw [← hl, Bool.eq_iff_iff, decide_eq_true_iff, beq_iff_eq]
  clear hl
  generalize gd.length = gl at *
  go_wp2_with (go_at_call 27; refine (hC.out _).mono ?_; rintro e w3 ⟨rfl, hd⟩; obtain ⟨g0, g1, g2, g3⟩ := hr1.out _ hd.below; replace hd := Aside0.mk hd.below)
  go_returns
  exact ⟨rfl, hb.out.trans (Below_low hd.out hb.out.size)⟩

set_option maxHeartbeats 8000000 in
set_option maxRecDepth 100000 in
theorem rfits_ref_6_true (k p n a : Int) (A : Option Addr) (l c : Nat) (we wn : Int) (A1 : Option Addr) (c1 : Nat) (wd : List Int) (ge gn : Int) (A2 : Option Addr) (c2 : Nat) (gd : List Int) (r : Bool) (w : World) (h1 : Kd.C (Kd.int .u8) w A1 wd.length wd) (hc1 : wd.length ≤ c1) (h2 : Kd.C (Kd.int .u8) w A2 gd.length gd) (hc2 : gd.length ≤ c2)
    (hw : (we == 0) = true) (hg : gunnyref38_Refusal.f ge = some true) (hk : k = 6) (hl : decide (gd.length = 0) = true) :
    Calls Try.prog 9 #[.agg #[.int .i64 k, .int .i64 p, .int .i64 n, .int .u64 a, .slice A l c], .agg #[.int .i64 we, .int .i64 wn, .slice A1 wd.length c1], .agg #[.int .i64 ge, .int .i64 gn, .slice A2 gd.length c2]] w fun e w' => e = .returned (.bool true) ∧ Below w.heap.size w w' := by
  have hb := below_alloc (below_alloc (below_alloc (Below.refl _ w) (C25 k p n a A l c)) (C28 we wn A1 wd.length c1)) (C28 ge gn A2 gd.length c2)
  have q0 := blk_alloc (blk_alloc (blk_new w (C25 k p n a A l c)) (C28 we wn A1 wd.length c1)) (C28 ge gn A2 gd.length c2)
  have q1 := blk_alloc (blk_new (w.alloc (C25 k p n a A l c)) (C28 we wn A1 wd.length c1)) (C28 ge gn A2 gd.length c2)
  have q2 := blk_new ((w.alloc (C25 k p n a A l c)).alloc (C28 we wn A1 wd.length c1)) (C28 ge gn A2 gd.length c2)
  rw [World.size_alloc] at q1
  rw [World.size_alloc, World.size_alloc] at q2
  have H1 := Kd.C_below h1 hb
  have H2 := Kd.C_below h2 hb
  unfold C25 C28 at hb q0 q1 q2 H1 H2
  replace hb := Aside0.mk hb
  clear h1 h2
  replace hk := Aside0.mk hk
  go_enter Try.func9, Try.ntmps9
  go_upto_region 1 with fail
  generalize ((w.alloc (.cells #[.int .i64 k, .int .i64 p, .int .i64 n, .int .u64 a, .slice A l c] 25 (0, 0))).alloc (.cells #[.int .i64 we, .int .i64 wn, .slice A1 wd.length c1] 28 (0, 0))).alloc (.cells #[.int .i64 ge, .int .i64 gn, .slice A2 gd.length c2] 28 (0, 0)) = w1 at *
  have k0 : w1.cell? ⟨w.heap.size, 0, none⟩ = some (.int .i64 k) := (blk_cell q0 0).trans rfl
  have y0 : w1.cell? ⟨w.heap.size + 1, 0, none⟩ = some (.int .i64 we) := (blk_cell q1 0).trans rfl
  have y1 : w1.cell? ⟨w.heap.size + 1, 1, none⟩ = some (.int .i64 wn) := (blk_cell q1 1).trans rfl
  have y2 : w1.cell? ⟨w.heap.size + 1, 2, none⟩ = some (.slice A1 wd.length c1) := (blk_cell q1 2).trans rfl
  have z0 : w1.cell? ⟨w.heap.size + 1 + 1, 0, none⟩ = some (.int .i64 ge) := (blk_cell q2 0).trans rfl
  have z1 : w1.cell? ⟨w.heap.size + 1 + 1, 1, none⟩ = some (.int .i64 gn) := (blk_cell q2 1).trans rfl
  have z2 : w1.cell? ⟨w.heap.size + 1 + 1, 2, none⟩ = some (.slice A2 gd.length c2) := (blk_cell q2 2).trans rfl
  have hr1 := Aside0.mk (fun (W : World) (hW : Below w1.heap.size w1 W) => (⟨(blk_cell (blk_below q0 hW) 0).trans rfl, (blk_cell (blk_below q1 hW) 1).trans rfl, (blk_cell (blk_below q2 hW) 1).trans rfl, (blk_cell (blk_below q2 hW) 2).trans rfl⟩ : W.cell? ⟨w.heap.size, 0, none⟩ = some (.int .i64 k) ∧ W.cell? ⟨w.heap.size + 1, 1, none⟩ = some (.int .i64 wn) ∧ W.cell? ⟨w.heap.size + 1 + 1, 1, none⟩ = some (.int .i64 gn) ∧ W.cell? ⟨w.heap.size + 1 + 1, 2, none⟩ = some (.slice A2 gd.length c2)))
  have hr2 := Aside0.mk (fun (W : World) (hW : Below w1.heap.size w1 W) => (⟨(blk_cell (blk_below q1 hW) 0).trans rfl, (blk_cell (blk_below q1 hW) 2).trans rfl, (blk_cell (blk_below q2 hW) 0).trans rfl⟩ : W.cell? ⟨w.heap.size + 1, 0, none⟩ = some (.int .i64 we) ∧ W.cell? ⟨w.heap.size + 1, 2, none⟩ = some (.slice A1 wd.length c1) ∧ W.cell? ⟨w.heap.size + 1 + 1, 0, none⟩ = some (.int .i64 ge)))
  clear q0 q1 q2
  have hC := Aside0.mk (fun W => gunnyref38_Refusal.calls ge true W hg)
  clear H1 H2 hc1 hc2 hg
  have e0 : (k == 0) = false := beq_eq_false_iff_ne.mpr (by have := hk.out; omega)
  have e3 : (k == 3) = false := beq_eq_false_iff_ne.mpr (by have := hk.out; omega)
  have e5 : (k == 5) = false := beq_eq_false_iff_ne.mpr (by have := hk.out; omega)
  have e4 : (k == 4) = false := beq_eq_false_iff_ne.mpr (by have := hk.out; omega)
  have e6 : (k == 6) = true := beq_iff_eq.mpr hk.out
  clear hk
  have l0 : (((gd.length : Nat) : Int) == 0) = true := by
    rw [← hl, Bool.eq_iff_iff, decide_eq_true_iff, beq_iff_eq]
    omega
  have l1 : (gd.length == 0) = true := by
    rw [← hl, Bool.eq_iff_iff, decide_eq_true_iff, beq_iff_eq]
  clear hl
  generalize gd.length = gl at *
  go_wp2_with (go_at_call 27; refine (hC.out _).mono ?_; rintro e w3 ⟨rfl, hd⟩; obtain ⟨g0, g1, g2, g3⟩ := hr1.out _ hd.below; replace hd := Aside0.mk hd.below)
  go_returns
  exact ⟨rfl, hb.out.trans (Below_low hd.out hb.out.size)⟩

set_option maxHeartbeats 8000000 in
set_option maxRecDepth 100000 in
theorem rfits_ref_6_false (k p n a : Int) (A : Option Addr) (l c : Nat) (we wn : Int) (A1 : Option Addr) (c1 : Nat) (wd : List Int) (ge gn : Int) (A2 : Option Addr) (c2 : Nat) (gd : List Int) (r : Bool) (w : World) (h1 : Kd.C (Kd.int .u8) w A1 wd.length wd) (hc1 : wd.length ≤ c1) (h2 : Kd.C (Kd.int .u8) w A2 gd.length gd) (hc2 : gd.length ≤ c2)
    (hw : (we == 0) = true) (hg : gunnyref38_Refusal.f ge = some true) (hk : k = 6) (hl : decide (gd.length = 0) = false) :
    Calls Try.prog 9 #[.agg #[.int .i64 k, .int .i64 p, .int .i64 n, .int .u64 a, .slice A l c], .agg #[.int .i64 we, .int .i64 wn, .slice A1 wd.length c1], .agg #[.int .i64 ge, .int .i64 gn, .slice A2 gd.length c2]] w fun e w' => e = .returned (.bool false) ∧ Below w.heap.size w w' := by
  have hb := below_alloc (below_alloc (below_alloc (Below.refl _ w) (C25 k p n a A l c)) (C28 we wn A1 wd.length c1)) (C28 ge gn A2 gd.length c2)
  have q0 := blk_alloc (blk_alloc (blk_new w (C25 k p n a A l c)) (C28 we wn A1 wd.length c1)) (C28 ge gn A2 gd.length c2)
  have q1 := blk_alloc (blk_new (w.alloc (C25 k p n a A l c)) (C28 we wn A1 wd.length c1)) (C28 ge gn A2 gd.length c2)
  have q2 := blk_new ((w.alloc (C25 k p n a A l c)).alloc (C28 we wn A1 wd.length c1)) (C28 ge gn A2 gd.length c2)
  rw [World.size_alloc] at q1
  rw [World.size_alloc, World.size_alloc] at q2
  have H1 := Kd.C_below h1 hb
  have H2 := Kd.C_below h2 hb
  unfold C25 C28 at hb q0 q1 q2 H1 H2
  replace hb := Aside0.mk hb
  clear h1 h2
  replace hk := Aside0.mk hk
  go_enter Try.func9, Try.ntmps9
  go_upto_region 1 with fail
  generalize ((w.alloc (.cells #[.int .i64 k, .int .i64 p, .int .i64 n, .int .u64 a, .slice A l c] 25 (0, 0))).alloc (.cells #[.int .i64 we, .int .i64 wn, .slice A1 wd.length c1] 28 (0, 0))).alloc (.cells #[.int .i64 ge, .int .i64 gn, .slice A2 gd.length c2] 28 (0, 0)) = w1 at *
  have k0 : w1.cell? ⟨w.heap.size, 0, none⟩ = some (.int .i64 k) := (blk_cell q0 0).trans rfl
  have y0 : w1.cell? ⟨w.heap.size + 1, 0, none⟩ = some (.int .i64 we) := (blk_cell q1 0).trans rfl
  have y1 : w1.cell? ⟨w.heap.size + 1, 1, none⟩ = some (.int .i64 wn) := (blk_cell q1 1).trans rfl
  have y2 : w1.cell? ⟨w.heap.size + 1, 2, none⟩ = some (.slice A1 wd.length c1) := (blk_cell q1 2).trans rfl
  have z0 : w1.cell? ⟨w.heap.size + 1 + 1, 0, none⟩ = some (.int .i64 ge) := (blk_cell q2 0).trans rfl
  have z1 : w1.cell? ⟨w.heap.size + 1 + 1, 1, none⟩ = some (.int .i64 gn) := (blk_cell q2 1).trans rfl
  have z2 : w1.cell? ⟨w.heap.size + 1 + 1, 2, none⟩ = some (.slice A2 gd.length c2) := (blk_cell q2 2).trans rfl
  have hr1 := Aside0.mk (fun (W : World) (hW : Below w1.heap.size w1 W) => (⟨(blk_cell (blk_below q0 hW) 0).trans rfl, (blk_cell (blk_below q1 hW) 1).trans rfl, (blk_cell (blk_below q2 hW) 1).trans rfl, (blk_cell (blk_below q2 hW) 2).trans rfl⟩ : W.cell? ⟨w.heap.size, 0, none⟩ = some (.int .i64 k) ∧ W.cell? ⟨w.heap.size + 1, 1, none⟩ = some (.int .i64 wn) ∧ W.cell? ⟨w.heap.size + 1 + 1, 1, none⟩ = some (.int .i64 gn) ∧ W.cell? ⟨w.heap.size + 1 + 1, 2, none⟩ = some (.slice A2 gd.length c2)))
  have hr2 := Aside0.mk (fun (W : World) (hW : Below w1.heap.size w1 W) => (⟨(blk_cell (blk_below q1 hW) 0).trans rfl, (blk_cell (blk_below q1 hW) 2).trans rfl, (blk_cell (blk_below q2 hW) 0).trans rfl⟩ : W.cell? ⟨w.heap.size + 1, 0, none⟩ = some (.int .i64 we) ∧ W.cell? ⟨w.heap.size + 1, 2, none⟩ = some (.slice A1 wd.length c1) ∧ W.cell? ⟨w.heap.size + 1 + 1, 0, none⟩ = some (.int .i64 ge)))
  clear q0 q1 q2
  have hC := Aside0.mk (fun W => gunnyref38_Refusal.calls ge true W hg)
  clear H1 H2 hc1 hc2 hg
  have e0 : (k == 0) = false := beq_eq_false_iff_ne.mpr (by have := hk.out; omega)
  have e3 : (k == 3) = false := beq_eq_false_iff_ne.mpr (by have := hk.out; omega)
  have e5 : (k == 5) = false := beq_eq_false_iff_ne.mpr (by have := hk.out; omega)
  have e4 : (k == 4) = false := beq_eq_false_iff_ne.mpr (by have := hk.out; omega)
  have e6 : (k == 6) = true := beq_iff_eq.mpr hk.out
  clear hk
  have l0 : (((gd.length : Nat) : Int) == 0) = false := by
    rw [← hl, Bool.eq_iff_iff, decide_eq_true_iff, beq_iff_eq]
    omega
  have l1 : (gd.length == 0) = false := by
    rw [← hl, Bool.eq_iff_iff, decide_eq_true_iff, beq_iff_eq]
  clear hl
  generalize gd.length = gl at *
  go_wp2_with (go_at_call 27; refine (hC.out _).mono ?_; rintro e w3 ⟨rfl, hd⟩; obtain ⟨g0, g1, g2, g3⟩ := hr1.out _ hd.below; replace hd := Aside0.mk hd.below)
  go_returns
  exact ⟨rfl, hb.out.trans (Below_low hd.out hb.out.size)⟩

set_option maxHeartbeats 8000000 in
set_option maxRecDepth 100000 in
theorem rfits_ref_8_true (k p n a : Int) (A : Option Addr) (l c : Nat) (we wn : Int) (A1 : Option Addr) (c1 : Nat) (wd : List Int) (ge gn : Int) (A2 : Option Addr) (c2 : Nat) (gd : List Int) (r : Bool) (w : World) (h1 : Kd.C (Kd.int .u8) w A1 wd.length wd) (hc1 : wd.length ≤ c1) (h2 : Kd.C (Kd.int .u8) w A2 gd.length gd) (hc2 : gd.length ≤ c2)
    (hw : (we == 0) = true) (hg : gunnyref38_Refusal.f ge = some true) (hk : k = 8) (hl : decide (gd.length = 0) = true) :
    Calls Try.prog 9 #[.agg #[.int .i64 k, .int .i64 p, .int .i64 n, .int .u64 a, .slice A l c], .agg #[.int .i64 we, .int .i64 wn, .slice A1 wd.length c1], .agg #[.int .i64 ge, .int .i64 gn, .slice A2 gd.length c2]] w fun e w' => e = .returned (.bool true) ∧ Below w.heap.size w w' := by
  have hb := below_alloc (below_alloc (below_alloc (Below.refl _ w) (C25 k p n a A l c)) (C28 we wn A1 wd.length c1)) (C28 ge gn A2 gd.length c2)
  have q0 := blk_alloc (blk_alloc (blk_new w (C25 k p n a A l c)) (C28 we wn A1 wd.length c1)) (C28 ge gn A2 gd.length c2)
  have q1 := blk_alloc (blk_new (w.alloc (C25 k p n a A l c)) (C28 we wn A1 wd.length c1)) (C28 ge gn A2 gd.length c2)
  have q2 := blk_new ((w.alloc (C25 k p n a A l c)).alloc (C28 we wn A1 wd.length c1)) (C28 ge gn A2 gd.length c2)
  rw [World.size_alloc] at q1
  rw [World.size_alloc, World.size_alloc] at q2
  have H1 := Kd.C_below h1 hb
  have H2 := Kd.C_below h2 hb
  unfold C25 C28 at hb q0 q1 q2 H1 H2
  replace hb := Aside0.mk hb
  clear h1 h2
  replace hk := Aside0.mk hk
  go_enter Try.func9, Try.ntmps9
  go_upto_region 1 with fail
  generalize ((w.alloc (.cells #[.int .i64 k, .int .i64 p, .int .i64 n, .int .u64 a, .slice A l c] 25 (0, 0))).alloc (.cells #[.int .i64 we, .int .i64 wn, .slice A1 wd.length c1] 28 (0, 0))).alloc (.cells #[.int .i64 ge, .int .i64 gn, .slice A2 gd.length c2] 28 (0, 0)) = w1 at *
  have k0 : w1.cell? ⟨w.heap.size, 0, none⟩ = some (.int .i64 k) := (blk_cell q0 0).trans rfl
  have y0 : w1.cell? ⟨w.heap.size + 1, 0, none⟩ = some (.int .i64 we) := (blk_cell q1 0).trans rfl
  have y1 : w1.cell? ⟨w.heap.size + 1, 1, none⟩ = some (.int .i64 wn) := (blk_cell q1 1).trans rfl
  have y2 : w1.cell? ⟨w.heap.size + 1, 2, none⟩ = some (.slice A1 wd.length c1) := (blk_cell q1 2).trans rfl
  have z0 : w1.cell? ⟨w.heap.size + 1 + 1, 0, none⟩ = some (.int .i64 ge) := (blk_cell q2 0).trans rfl
  have z1 : w1.cell? ⟨w.heap.size + 1 + 1, 1, none⟩ = some (.int .i64 gn) := (blk_cell q2 1).trans rfl
  have z2 : w1.cell? ⟨w.heap.size + 1 + 1, 2, none⟩ = some (.slice A2 gd.length c2) := (blk_cell q2 2).trans rfl
  have hr1 := Aside0.mk (fun (W : World) (hW : Below w1.heap.size w1 W) => (⟨(blk_cell (blk_below q0 hW) 0).trans rfl, (blk_cell (blk_below q1 hW) 1).trans rfl, (blk_cell (blk_below q2 hW) 1).trans rfl, (blk_cell (blk_below q2 hW) 2).trans rfl⟩ : W.cell? ⟨w.heap.size, 0, none⟩ = some (.int .i64 k) ∧ W.cell? ⟨w.heap.size + 1, 1, none⟩ = some (.int .i64 wn) ∧ W.cell? ⟨w.heap.size + 1 + 1, 1, none⟩ = some (.int .i64 gn) ∧ W.cell? ⟨w.heap.size + 1 + 1, 2, none⟩ = some (.slice A2 gd.length c2)))
  have hr2 := Aside0.mk (fun (W : World) (hW : Below w1.heap.size w1 W) => (⟨(blk_cell (blk_below q1 hW) 0).trans rfl, (blk_cell (blk_below q1 hW) 2).trans rfl, (blk_cell (blk_below q2 hW) 0).trans rfl⟩ : W.cell? ⟨w.heap.size + 1, 0, none⟩ = some (.int .i64 we) ∧ W.cell? ⟨w.heap.size + 1, 2, none⟩ = some (.slice A1 wd.length c1) ∧ W.cell? ⟨w.heap.size + 1 + 1, 0, none⟩ = some (.int .i64 ge)))
  clear q0 q1 q2
  have hC := Aside0.mk (fun W => gunnyref38_Refusal.calls ge true W hg)
  clear H1 H2 hc1 hc2 hg
  have e0 : (k == 0) = false := beq_eq_false_iff_ne.mpr (by have := hk.out; omega)
  have e3 : (k == 3) = false := beq_eq_false_iff_ne.mpr (by have := hk.out; omega)
  have e5 : (k == 5) = false := beq_eq_false_iff_ne.mpr (by have := hk.out; omega)
  have e4 : (k == 4) = false := beq_eq_false_iff_ne.mpr (by have := hk.out; omega)
  have e6 : (k == 6) = false := beq_eq_false_iff_ne.mpr (by have := hk.out; omega)
  have e8 : (k == 8) = true := beq_iff_eq.mpr hk.out
  clear hk
  have l0 : (((gd.length : Nat) : Int) == 0) = true := by
    rw [← hl, Bool.eq_iff_iff, decide_eq_true_iff, beq_iff_eq]
    omega
  have l1 : (gd.length == 0) = true := by
    rw [← hl, Bool.eq_iff_iff, decide_eq_true_iff, beq_iff_eq]
  clear hl
  generalize gd.length = gl at *
  go_wp2_with (go_at_call 27; refine (hC.out _).mono ?_; rintro e w3 ⟨rfl, hd⟩; obtain ⟨g0, g1, g2, g3⟩ := hr1.out _ hd.below; replace hd := Aside0.mk hd.below)
  go_returns
  exact ⟨rfl, hb.out.trans (Below_low hd.out hb.out.size)⟩

set_option maxHeartbeats 8000000 in
set_option maxRecDepth 100000 in
theorem rfits_ref_8_false (k p n a : Int) (A : Option Addr) (l c : Nat) (we wn : Int) (A1 : Option Addr) (c1 : Nat) (wd : List Int) (ge gn : Int) (A2 : Option Addr) (c2 : Nat) (gd : List Int) (r : Bool) (w : World) (h1 : Kd.C (Kd.int .u8) w A1 wd.length wd) (hc1 : wd.length ≤ c1) (h2 : Kd.C (Kd.int .u8) w A2 gd.length gd) (hc2 : gd.length ≤ c2)
    (hw : (we == 0) = true) (hg : gunnyref38_Refusal.f ge = some true) (hk : k = 8) (hl : decide (gd.length = 0) = false) :
    Calls Try.prog 9 #[.agg #[.int .i64 k, .int .i64 p, .int .i64 n, .int .u64 a, .slice A l c], .agg #[.int .i64 we, .int .i64 wn, .slice A1 wd.length c1], .agg #[.int .i64 ge, .int .i64 gn, .slice A2 gd.length c2]] w fun e w' => e = .returned (.bool false) ∧ Below w.heap.size w w' := by
  have hb := below_alloc (below_alloc (below_alloc (Below.refl _ w) (C25 k p n a A l c)) (C28 we wn A1 wd.length c1)) (C28 ge gn A2 gd.length c2)
  have q0 := blk_alloc (blk_alloc (blk_new w (C25 k p n a A l c)) (C28 we wn A1 wd.length c1)) (C28 ge gn A2 gd.length c2)
  have q1 := blk_alloc (blk_new (w.alloc (C25 k p n a A l c)) (C28 we wn A1 wd.length c1)) (C28 ge gn A2 gd.length c2)
  have q2 := blk_new ((w.alloc (C25 k p n a A l c)).alloc (C28 we wn A1 wd.length c1)) (C28 ge gn A2 gd.length c2)
  rw [World.size_alloc] at q1
  rw [World.size_alloc, World.size_alloc] at q2
  have H1 := Kd.C_below h1 hb
  have H2 := Kd.C_below h2 hb
  unfold C25 C28 at hb q0 q1 q2 H1 H2
  replace hb := Aside0.mk hb
  clear h1 h2
  replace hk := Aside0.mk hk
  go_enter Try.func9, Try.ntmps9
  go_upto_region 1 with fail
  generalize ((w.alloc (.cells #[.int .i64 k, .int .i64 p, .int .i64 n, .int .u64 a, .slice A l c] 25 (0, 0))).alloc (.cells #[.int .i64 we, .int .i64 wn, .slice A1 wd.length c1] 28 (0, 0))).alloc (.cells #[.int .i64 ge, .int .i64 gn, .slice A2 gd.length c2] 28 (0, 0)) = w1 at *
  have k0 : w1.cell? ⟨w.heap.size, 0, none⟩ = some (.int .i64 k) := (blk_cell q0 0).trans rfl
  have y0 : w1.cell? ⟨w.heap.size + 1, 0, none⟩ = some (.int .i64 we) := (blk_cell q1 0).trans rfl
  have y1 : w1.cell? ⟨w.heap.size + 1, 1, none⟩ = some (.int .i64 wn) := (blk_cell q1 1).trans rfl
  have y2 : w1.cell? ⟨w.heap.size + 1, 2, none⟩ = some (.slice A1 wd.length c1) := (blk_cell q1 2).trans rfl
  have z0 : w1.cell? ⟨w.heap.size + 1 + 1, 0, none⟩ = some (.int .i64 ge) := (blk_cell q2 0).trans rfl
  have z1 : w1.cell? ⟨w.heap.size + 1 + 1, 1, none⟩ = some (.int .i64 gn) := (blk_cell q2 1).trans rfl
  have z2 : w1.cell? ⟨w.heap.size + 1 + 1, 2, none⟩ = some (.slice A2 gd.length c2) := (blk_cell q2 2).trans rfl
  have hr1 := Aside0.mk (fun (W : World) (hW : Below w1.heap.size w1 W) => (⟨(blk_cell (blk_below q0 hW) 0).trans rfl, (blk_cell (blk_below q1 hW) 1).trans rfl, (blk_cell (blk_below q2 hW) 1).trans rfl, (blk_cell (blk_below q2 hW) 2).trans rfl⟩ : W.cell? ⟨w.heap.size, 0, none⟩ = some (.int .i64 k) ∧ W.cell? ⟨w.heap.size + 1, 1, none⟩ = some (.int .i64 wn) ∧ W.cell? ⟨w.heap.size + 1 + 1, 1, none⟩ = some (.int .i64 gn) ∧ W.cell? ⟨w.heap.size + 1 + 1, 2, none⟩ = some (.slice A2 gd.length c2)))
  have hr2 := Aside0.mk (fun (W : World) (hW : Below w1.heap.size w1 W) => (⟨(blk_cell (blk_below q1 hW) 0).trans rfl, (blk_cell (blk_below q1 hW) 2).trans rfl, (blk_cell (blk_below q2 hW) 0).trans rfl⟩ : W.cell? ⟨w.heap.size + 1, 0, none⟩ = some (.int .i64 we) ∧ W.cell? ⟨w.heap.size + 1, 2, none⟩ = some (.slice A1 wd.length c1) ∧ W.cell? ⟨w.heap.size + 1 + 1, 0, none⟩ = some (.int .i64 ge)))
  clear q0 q1 q2
  have hC := Aside0.mk (fun W => gunnyref38_Refusal.calls ge true W hg)
  clear H1 H2 hc1 hc2 hg
  have e0 : (k == 0) = false := beq_eq_false_iff_ne.mpr (by have := hk.out; omega)
  have e3 : (k == 3) = false := beq_eq_false_iff_ne.mpr (by have := hk.out; omega)
  have e5 : (k == 5) = false := beq_eq_false_iff_ne.mpr (by have := hk.out; omega)
  have e4 : (k == 4) = false := beq_eq_false_iff_ne.mpr (by have := hk.out; omega)
  have e6 : (k == 6) = false := beq_eq_false_iff_ne.mpr (by have := hk.out; omega)
  have e8 : (k == 8) = true := beq_iff_eq.mpr hk.out
  clear hk
  have l0 : (((gd.length : Nat) : Int) == 0) = false := by
    rw [← hl, Bool.eq_iff_iff, decide_eq_true_iff, beq_iff_eq]
    omega
  have l1 : (gd.length == 0) = false := by
    rw [← hl, Bool.eq_iff_iff, decide_eq_true_iff, beq_iff_eq]
  clear hl
  generalize gd.length = gl at *
  go_wp2_with (go_at_call 27; refine (hC.out _).mono ?_; rintro e w3 ⟨rfl, hd⟩; obtain ⟨g0, g1, g2, g3⟩ := hr1.out _ hd.below; replace hd := Aside0.mk hd.below)
  go_returns
  exact ⟨rfl, hb.out.trans (Below_low hd.out hb.out.size)⟩

set_option maxHeartbeats 8000000 in
set_option maxRecDepth 100000 in
theorem rfits_ref_9_true (k p n a : Int) (A : Option Addr) (l c : Nat) (we wn : Int) (A1 : Option Addr) (c1 : Nat) (wd : List Int) (ge gn : Int) (A2 : Option Addr) (c2 : Nat) (gd : List Int) (r : Bool) (w : World) (h1 : Kd.C (Kd.int .u8) w A1 wd.length wd) (hc1 : wd.length ≤ c1) (h2 : Kd.C (Kd.int .u8) w A2 gd.length gd) (hc2 : gd.length ≤ c2)
    (hw : (we == 0) = true) (hg : gunnyref38_Refusal.f ge = some true) (hk : k = 9) (hl : decide (gd.length = 0) = true) :
    Calls Try.prog 9 #[.agg #[.int .i64 k, .int .i64 p, .int .i64 n, .int .u64 a, .slice A l c], .agg #[.int .i64 we, .int .i64 wn, .slice A1 wd.length c1], .agg #[.int .i64 ge, .int .i64 gn, .slice A2 gd.length c2]] w fun e w' => e = .returned (.bool true) ∧ Below w.heap.size w w' := by
  have hb := below_alloc (below_alloc (below_alloc (Below.refl _ w) (C25 k p n a A l c)) (C28 we wn A1 wd.length c1)) (C28 ge gn A2 gd.length c2)
  have q0 := blk_alloc (blk_alloc (blk_new w (C25 k p n a A l c)) (C28 we wn A1 wd.length c1)) (C28 ge gn A2 gd.length c2)
  have q1 := blk_alloc (blk_new (w.alloc (C25 k p n a A l c)) (C28 we wn A1 wd.length c1)) (C28 ge gn A2 gd.length c2)
  have q2 := blk_new ((w.alloc (C25 k p n a A l c)).alloc (C28 we wn A1 wd.length c1)) (C28 ge gn A2 gd.length c2)
  rw [World.size_alloc] at q1
  rw [World.size_alloc, World.size_alloc] at q2
  have H1 := Kd.C_below h1 hb
  have H2 := Kd.C_below h2 hb
  unfold C25 C28 at hb q0 q1 q2 H1 H2
  replace hb := Aside0.mk hb
  clear h1 h2
  replace hk := Aside0.mk hk
  go_enter Try.func9, Try.ntmps9
  go_upto_region 1 with fail
  generalize ((w.alloc (.cells #[.int .i64 k, .int .i64 p, .int .i64 n, .int .u64 a, .slice A l c] 25 (0, 0))).alloc (.cells #[.int .i64 we, .int .i64 wn, .slice A1 wd.length c1] 28 (0, 0))).alloc (.cells #[.int .i64 ge, .int .i64 gn, .slice A2 gd.length c2] 28 (0, 0)) = w1 at *
  have k0 : w1.cell? ⟨w.heap.size, 0, none⟩ = some (.int .i64 k) := (blk_cell q0 0).trans rfl
  have y0 : w1.cell? ⟨w.heap.size + 1, 0, none⟩ = some (.int .i64 we) := (blk_cell q1 0).trans rfl
  have y1 : w1.cell? ⟨w.heap.size + 1, 1, none⟩ = some (.int .i64 wn) := (blk_cell q1 1).trans rfl
  have y2 : w1.cell? ⟨w.heap.size + 1, 2, none⟩ = some (.slice A1 wd.length c1) := (blk_cell q1 2).trans rfl
  have z0 : w1.cell? ⟨w.heap.size + 1 + 1, 0, none⟩ = some (.int .i64 ge) := (blk_cell q2 0).trans rfl
  have z1 : w1.cell? ⟨w.heap.size + 1 + 1, 1, none⟩ = some (.int .i64 gn) := (blk_cell q2 1).trans rfl
  have z2 : w1.cell? ⟨w.heap.size + 1 + 1, 2, none⟩ = some (.slice A2 gd.length c2) := (blk_cell q2 2).trans rfl
  have hr1 := Aside0.mk (fun (W : World) (hW : Below w1.heap.size w1 W) => (⟨(blk_cell (blk_below q0 hW) 0).trans rfl, (blk_cell (blk_below q1 hW) 1).trans rfl, (blk_cell (blk_below q2 hW) 1).trans rfl, (blk_cell (blk_below q2 hW) 2).trans rfl⟩ : W.cell? ⟨w.heap.size, 0, none⟩ = some (.int .i64 k) ∧ W.cell? ⟨w.heap.size + 1, 1, none⟩ = some (.int .i64 wn) ∧ W.cell? ⟨w.heap.size + 1 + 1, 1, none⟩ = some (.int .i64 gn) ∧ W.cell? ⟨w.heap.size + 1 + 1, 2, none⟩ = some (.slice A2 gd.length c2)))
  have hr2 := Aside0.mk (fun (W : World) (hW : Below w1.heap.size w1 W) => (⟨(blk_cell (blk_below q1 hW) 0).trans rfl, (blk_cell (blk_below q1 hW) 2).trans rfl, (blk_cell (blk_below q2 hW) 0).trans rfl⟩ : W.cell? ⟨w.heap.size + 1, 0, none⟩ = some (.int .i64 we) ∧ W.cell? ⟨w.heap.size + 1, 2, none⟩ = some (.slice A1 wd.length c1) ∧ W.cell? ⟨w.heap.size + 1 + 1, 0, none⟩ = some (.int .i64 ge)))
  clear q0 q1 q2
  have hC := Aside0.mk (fun W => gunnyref38_Refusal.calls ge true W hg)
  clear H1 H2 hc1 hc2 hg
  have e0 : (k == 0) = false := beq_eq_false_iff_ne.mpr (by have := hk.out; omega)
  have e3 : (k == 3) = false := beq_eq_false_iff_ne.mpr (by have := hk.out; omega)
  have e5 : (k == 5) = false := beq_eq_false_iff_ne.mpr (by have := hk.out; omega)
  have e4 : (k == 4) = false := beq_eq_false_iff_ne.mpr (by have := hk.out; omega)
  have e6 : (k == 6) = false := beq_eq_false_iff_ne.mpr (by have := hk.out; omega)
  have e8 : (k == 8) = false := beq_eq_false_iff_ne.mpr (by have := hk.out; omega)
  have e9 : (k == 9) = true := beq_iff_eq.mpr hk.out
  clear hk
  have l0 : (((gd.length : Nat) : Int) == 0) = true := by
    rw [← hl, Bool.eq_iff_iff, decide_eq_true_iff, beq_iff_eq]
    omega
  have l1 : (gd.length == 0) = true := by
    rw [← hl, Bool.eq_iff_iff, decide_eq_true_iff, beq_iff_eq]
  clear hl
  generalize gd.length = gl at *
  go_wp2_with (go_at_call 27; refine (hC.out _).mono ?_; rintro e w3 ⟨rfl, hd⟩; obtain ⟨g0, g1, g2, g3⟩ := hr1.out _ hd.below; replace hd := Aside0.mk hd.below)
  go_returns
  exact ⟨rfl, hb.out.trans (Below_low hd.out hb.out.size)⟩

set_option maxHeartbeats 8000000 in
set_option maxRecDepth 100000 in
theorem rfits_ref_9_false (k p n a : Int) (A : Option Addr) (l c : Nat) (we wn : Int) (A1 : Option Addr) (c1 : Nat) (wd : List Int) (ge gn : Int) (A2 : Option Addr) (c2 : Nat) (gd : List Int) (r : Bool) (w : World) (h1 : Kd.C (Kd.int .u8) w A1 wd.length wd) (hc1 : wd.length ≤ c1) (h2 : Kd.C (Kd.int .u8) w A2 gd.length gd) (hc2 : gd.length ≤ c2)
    (hw : (we == 0) = true) (hg : gunnyref38_Refusal.f ge = some true) (hk : k = 9) (hl : decide (gd.length = 0) = false) :
    Calls Try.prog 9 #[.agg #[.int .i64 k, .int .i64 p, .int .i64 n, .int .u64 a, .slice A l c], .agg #[.int .i64 we, .int .i64 wn, .slice A1 wd.length c1], .agg #[.int .i64 ge, .int .i64 gn, .slice A2 gd.length c2]] w fun e w' => e = .returned (.bool false) ∧ Below w.heap.size w w' := by
  have hb := below_alloc (below_alloc (below_alloc (Below.refl _ w) (C25 k p n a A l c)) (C28 we wn A1 wd.length c1)) (C28 ge gn A2 gd.length c2)
  have q0 := blk_alloc (blk_alloc (blk_new w (C25 k p n a A l c)) (C28 we wn A1 wd.length c1)) (C28 ge gn A2 gd.length c2)
  have q1 := blk_alloc (blk_new (w.alloc (C25 k p n a A l c)) (C28 we wn A1 wd.length c1)) (C28 ge gn A2 gd.length c2)
  have q2 := blk_new ((w.alloc (C25 k p n a A l c)).alloc (C28 we wn A1 wd.length c1)) (C28 ge gn A2 gd.length c2)
  rw [World.size_alloc] at q1
  rw [World.size_alloc, World.size_alloc] at q2
  have H1 := Kd.C_below h1 hb
  have H2 := Kd.C_below h2 hb
  unfold C25 C28 at hb q0 q1 q2 H1 H2
  replace hb := Aside0.mk hb
  clear h1 h2
  replace hk := Aside0.mk hk
  go_enter Try.func9, Try.ntmps9
  go_upto_region 1 with fail
  generalize ((w.alloc (.cells #[.int .i64 k, .int .i64 p, .int .i64 n, .int .u64 a, .slice A l c] 25 (0, 0))).alloc (.cells #[.int .i64 we, .int .i64 wn, .slice A1 wd.length c1] 28 (0, 0))).alloc (.cells #[.int .i64 ge, .int .i64 gn, .slice A2 gd.length c2] 28 (0, 0)) = w1 at *
  have k0 : w1.cell? ⟨w.heap.size, 0, none⟩ = some (.int .i64 k) := (blk_cell q0 0).trans rfl
  have y0 : w1.cell? ⟨w.heap.size + 1, 0, none⟩ = some (.int .i64 we) := (blk_cell q1 0).trans rfl
  have y1 : w1.cell? ⟨w.heap.size + 1, 1, none⟩ = some (.int .i64 wn) := (blk_cell q1 1).trans rfl
  have y2 : w1.cell? ⟨w.heap.size + 1, 2, none⟩ = some (.slice A1 wd.length c1) := (blk_cell q1 2).trans rfl
  have z0 : w1.cell? ⟨w.heap.size + 1 + 1, 0, none⟩ = some (.int .i64 ge) := (blk_cell q2 0).trans rfl
  have z1 : w1.cell? ⟨w.heap.size + 1 + 1, 1, none⟩ = some (.int .i64 gn) := (blk_cell q2 1).trans rfl
  have z2 : w1.cell? ⟨w.heap.size + 1 + 1, 2, none⟩ = some (.slice A2 gd.length c2) := (blk_cell q2 2).trans rfl
  have hr1 := Aside0.mk (fun (W : World) (hW : Below w1.heap.size w1 W) => (⟨(blk_cell (blk_below q0 hW) 0).trans rfl, (blk_cell (blk_below q1 hW) 1).trans rfl, (blk_cell (blk_below q2 hW) 1).trans rfl, (blk_cell (blk_below q2 hW) 2).trans rfl⟩ : W.cell? ⟨w.heap.size, 0, none⟩ = some (.int .i64 k) ∧ W.cell? ⟨w.heap.size + 1, 1, none⟩ = some (.int .i64 wn) ∧ W.cell? ⟨w.heap.size + 1 + 1, 1, none⟩ = some (.int .i64 gn) ∧ W.cell? ⟨w.heap.size + 1 + 1, 2, none⟩ = some (.slice A2 gd.length c2)))
  have hr2 := Aside0.mk (fun (W : World) (hW : Below w1.heap.size w1 W) => (⟨(blk_cell (blk_below q1 hW) 0).trans rfl, (blk_cell (blk_below q1 hW) 2).trans rfl, (blk_cell (blk_below q2 hW) 0).trans rfl⟩ : W.cell? ⟨w.heap.size + 1, 0, none⟩ = some (.int .i64 we) ∧ W.cell? ⟨w.heap.size + 1, 2, none⟩ = some (.slice A1 wd.length c1) ∧ W.cell? ⟨w.heap.size + 1 + 1, 0, none⟩ = some (.int .i64 ge)))
  clear q0 q1 q2
  have hC := Aside0.mk (fun W => gunnyref38_Refusal.calls ge true W hg)
  clear H1 H2 hc1 hc2 hg
  have e0 : (k == 0) = false := beq_eq_false_iff_ne.mpr (by have := hk.out; omega)
  have e3 : (k == 3) = false := beq_eq_false_iff_ne.mpr (by have := hk.out; omega)
  have e5 : (k == 5) = false := beq_eq_false_iff_ne.mpr (by have := hk.out; omega)
  have e4 : (k == 4) = false := beq_eq_false_iff_ne.mpr (by have := hk.out; omega)
  have e6 : (k == 6) = false := beq_eq_false_iff_ne.mpr (by have := hk.out; omega)
  have e8 : (k == 8) = false := beq_eq_false_iff_ne.mpr (by have := hk.out; omega)
  have e9 : (k == 9) = true := beq_iff_eq.mpr hk.out
  clear hk
  have l0 : (((gd.length : Nat) : Int) == 0) = false := by
    rw [← hl, Bool.eq_iff_iff, decide_eq_true_iff, beq_iff_eq]
    omega
  have l1 : (gd.length == 0) = false := by
    rw [← hl, Bool.eq_iff_iff, decide_eq_true_iff, beq_iff_eq]
  clear hl
  generalize gd.length = gl at *
  go_wp2_with (go_at_call 27; refine (hC.out _).mono ?_; rintro e w3 ⟨rfl, hd⟩; obtain ⟨g0, g1, g2, g3⟩ := hr1.out _ hd.below; replace hd := Aside0.mk hd.below)
  go_returns
  exact ⟨rfl, hb.out.trans (Below_low hd.out hb.out.size)⟩

set_option maxHeartbeats 8000000 in
set_option maxRecDepth 100000 in
theorem rfits_ref_none (k p n a : Int) (A : Option Addr) (l c : Nat) (we wn : Int) (A1 : Option Addr) (c1 : Nat) (wd : List Int) (ge gn : Int) (A2 : Option Addr) (c2 : Nat) (gd : List Int) (r : Bool) (w : World) (h1 : Kd.C (Kd.int .u8) w A1 wd.length wd) (hc1 : wd.length ≤ c1) (h2 : Kd.C (Kd.int .u8) w A2 gd.length gd) (hc2 : gd.length ≤ c2)
    (hw : (we == 0) = true) (hg : gunnyref38_Refusal.f ge = some true) (hk : k ≠ 0 ∧ k ≠ 3 ∧ k ≠ 5 ∧ k ≠ 4 ∧ k ≠ 6 ∧ k ≠ 8 ∧ k ≠ 9) :
    Calls Try.prog 9 #[.agg #[.int .i64 k, .int .i64 p, .int .i64 n, .int .u64 a, .slice A l c], .agg #[.int .i64 we, .int .i64 wn, .slice A1 wd.length c1], .agg #[.int .i64 ge, .int .i64 gn, .slice A2 gd.length c2]] w fun e w' => e = .returned (.bool false) ∧ Below w.heap.size w w' := by
  have hb := below_alloc (below_alloc (below_alloc (Below.refl _ w) (C25 k p n a A l c)) (C28 we wn A1 wd.length c1)) (C28 ge gn A2 gd.length c2)
  have q0 := blk_alloc (blk_alloc (blk_new w (C25 k p n a A l c)) (C28 we wn A1 wd.length c1)) (C28 ge gn A2 gd.length c2)
  have q1 := blk_alloc (blk_new (w.alloc (C25 k p n a A l c)) (C28 we wn A1 wd.length c1)) (C28 ge gn A2 gd.length c2)
  have q2 := blk_new ((w.alloc (C25 k p n a A l c)).alloc (C28 we wn A1 wd.length c1)) (C28 ge gn A2 gd.length c2)
  rw [World.size_alloc] at q1
  rw [World.size_alloc, World.size_alloc] at q2
  have H1 := Kd.C_below h1 hb
  have H2 := Kd.C_below h2 hb
  unfold C25 C28 at hb q0 q1 q2 H1 H2
  replace hb := Aside0.mk hb
  clear h1 h2
  replace hk := Aside0.mk hk
  go_enter Try.func9, Try.ntmps9
  go_upto_region 1 with fail
  generalize ((w.alloc (.cells #[.int .i64 k, .int .i64 p, .int .i64 n, .int .u64 a, .slice A l c] 25 (0, 0))).alloc (.cells #[.int .i64 we, .int .i64 wn, .slice A1 wd.length c1] 28 (0, 0))).alloc (.cells #[.int .i64 ge, .int .i64 gn, .slice A2 gd.length c2] 28 (0, 0)) = w1 at *
  have k0 : w1.cell? ⟨w.heap.size, 0, none⟩ = some (.int .i64 k) := (blk_cell q0 0).trans rfl
  have y0 : w1.cell? ⟨w.heap.size + 1, 0, none⟩ = some (.int .i64 we) := (blk_cell q1 0).trans rfl
  have y1 : w1.cell? ⟨w.heap.size + 1, 1, none⟩ = some (.int .i64 wn) := (blk_cell q1 1).trans rfl
  have y2 : w1.cell? ⟨w.heap.size + 1, 2, none⟩ = some (.slice A1 wd.length c1) := (blk_cell q1 2).trans rfl
  have z0 : w1.cell? ⟨w.heap.size + 1 + 1, 0, none⟩ = some (.int .i64 ge) := (blk_cell q2 0).trans rfl
  have z1 : w1.cell? ⟨w.heap.size + 1 + 1, 1, none⟩ = some (.int .i64 gn) := (blk_cell q2 1).trans rfl
  have z2 : w1.cell? ⟨w.heap.size + 1 + 1, 2, none⟩ = some (.slice A2 gd.length c2) := (blk_cell q2 2).trans rfl
  have hr1 := Aside0.mk (fun (W : World) (hW : Below w1.heap.size w1 W) => (⟨(blk_cell (blk_below q0 hW) 0).trans rfl, (blk_cell (blk_below q1 hW) 1).trans rfl, (blk_cell (blk_below q2 hW) 1).trans rfl, (blk_cell (blk_below q2 hW) 2).trans rfl⟩ : W.cell? ⟨w.heap.size, 0, none⟩ = some (.int .i64 k) ∧ W.cell? ⟨w.heap.size + 1, 1, none⟩ = some (.int .i64 wn) ∧ W.cell? ⟨w.heap.size + 1 + 1, 1, none⟩ = some (.int .i64 gn) ∧ W.cell? ⟨w.heap.size + 1 + 1, 2, none⟩ = some (.slice A2 gd.length c2)))
  have hr2 := Aside0.mk (fun (W : World) (hW : Below w1.heap.size w1 W) => (⟨(blk_cell (blk_below q1 hW) 0).trans rfl, (blk_cell (blk_below q1 hW) 2).trans rfl, (blk_cell (blk_below q2 hW) 0).trans rfl⟩ : W.cell? ⟨w.heap.size + 1, 0, none⟩ = some (.int .i64 we) ∧ W.cell? ⟨w.heap.size + 1, 2, none⟩ = some (.slice A1 wd.length c1) ∧ W.cell? ⟨w.heap.size + 1 + 1, 0, none⟩ = some (.int .i64 ge)))
  clear q0 q1 q2
  have hC := Aside0.mk (fun W => gunnyref38_Refusal.calls ge true W hg)
  clear H1 H2 hc1 hc2 hg
  have e0 : (k == 0) = false := beq_eq_false_iff_ne.mpr (by have := hk.out; omega)
  have e3 : (k == 3) = false := beq_eq_false_iff_ne.mpr (by have := hk.out; omega)
  have e5 : (k == 5) = false := beq_eq_false_iff_ne.mpr (by have := hk.out; omega)
  have e4 : (k == 4) = false := beq_eq_false_iff_ne.mpr (by have := hk.out; omega)
  have e6 : (k == 6) = false := beq_eq_false_iff_ne.mpr (by have := hk.out; omega)
  have e8 : (k == 8) = false := beq_eq_false_iff_ne.mpr (by have := hk.out; omega)
  have e9 : (k == 9) = false := beq_eq_false_iff_ne.mpr (by have := hk.out; omega)
  clear hk
  go_wp2_with (go_at_call 27; refine (hC.out _).mono ?_; rintro e w3 ⟨rfl, hd⟩; obtain ⟨g0, g1, g2, g3⟩ := hr1.out _ hd.below; replace hd := Aside0.mk hd.below)
  go_returns
  exact ⟨rfl, hb.out.trans (Below_low hd.out hb.out.size)⟩

set_option maxHeartbeats 8000000 in
set_option maxRecDepth 100000 in
theorem rfits_w_6_err (k p n a : Int) (A : Option Addr) (l c : Nat) (we wn : Int) (A1 : Option Addr) (c1 : Nat) (wd : List Int) (ge gn : Int) (A2 : Option Addr) (c2 : Nat) (gd : List Int) (r : Bool) (w : World) (h1 : Kd.C (Kd.int .u8) w A1 wd.length wd) (hc1 : wd.length ≤ c1) (h2 : Kd.C (Kd.int .u8) w A2 gd.length gd) (hc2 : gd.length ≤ c2)
    (hw : (we == 0) = false) (hk : k = 6) (h3 : (we == ge) = false) :
    Calls Try.prog 9 #[.agg #[.int .i64 k, .int .i64 p, .int .i64 n, .int .u64 a, .slice A l c], .agg #[.int .i64 we, .int .i64 wn, .slice A1 wd.length c1], .agg #[.int .i64 ge, .int .i64 gn, .slice A2 gd.length c2]] w fun e w' => e = .returned (.bool false) ∧ Below w.heap.size w w' := by
  have hb := below_alloc (below_alloc (below_alloc (Below.refl _ w) (C25 k p n a A l c)) (C28 we wn A1 wd.length c1)) (C28 ge gn A2 gd.length c2)
  have q0 := blk_alloc (blk_alloc (blk_new w (C25 k p n a A l c)) (C28 we wn A1 wd.length c1)) (C28 ge gn A2 gd.length c2)
  have q1 := blk_alloc (blk_new (w.alloc (C25 k p n a A l c)) (C28 we wn A1 wd.length c1)) (C28 ge gn A2 gd.length c2)
  have q2 := blk_new ((w.alloc (C25 k p n a A l c)).alloc (C28 we wn A1 wd.length c1)) (C28 ge gn A2 gd.length c2)
  rw [World.size_alloc] at q1
  rw [World.size_alloc, World.size_alloc] at q2
  have H1 := Kd.C_below h1 hb
  have H2 := Kd.C_below h2 hb
  unfold C25 C28 at hb q0 q1 q2 H1 H2
  replace hb := Aside0.mk hb
  clear h1 h2
  replace hk := Aside0.mk hk
  go_enter Try.func9, Try.ntmps9
  go_upto_region 1 with fail
  generalize ((w.alloc (.cells #[.int .i64 k, .int .i64 p, .int .i64 n, .int .u64 a, .slice A l c] 25 (0, 0))).alloc (.cells #[.int .i64 we, .int .i64 wn, .slice A1 wd.length c1] 28 (0, 0))).alloc (.cells #[.int .i64 ge, .int .i64 gn, .slice A2 gd.length c2] 28 (0, 0)) = w1 at *
  have k0 : w1.cell? ⟨w.heap.size, 0, none⟩ = some (.int .i64 k) := (blk_cell q0 0).trans rfl
  have y0 : w1.cell? ⟨w.heap.size + 1, 0, none⟩ = some (.int .i64 we) := (blk_cell q1 0).trans rfl
  have y1 : w1.cell? ⟨w.heap.size + 1, 1, none⟩ = some (.int .i64 wn) := (blk_cell q1 1).trans rfl
  have y2 : w1.cell? ⟨w.heap.size + 1, 2, none⟩ = some (.slice A1 wd.length c1) := (blk_cell q1 2).trans rfl
  have z0 : w1.cell? ⟨w.heap.size + 1 + 1, 0, none⟩ = some (.int .i64 ge) := (blk_cell q2 0).trans rfl
  have z1 : w1.cell? ⟨w.heap.size + 1 + 1, 1, none⟩ = some (.int .i64 gn) := (blk_cell q2 1).trans rfl
  have z2 : w1.cell? ⟨w.heap.size + 1 + 1, 2, none⟩ = some (.slice A2 gd.length c2) := (blk_cell q2 2).trans rfl
  have hr1 := Aside0.mk (fun (W : World) (hW : Below w1.heap.size w1 W) => (⟨(blk_cell (blk_below q0 hW) 0).trans rfl, (blk_cell (blk_below q1 hW) 1).trans rfl, (blk_cell (blk_below q2 hW) 1).trans rfl, (blk_cell (blk_below q2 hW) 2).trans rfl⟩ : W.cell? ⟨w.heap.size, 0, none⟩ = some (.int .i64 k) ∧ W.cell? ⟨w.heap.size + 1, 1, none⟩ = some (.int .i64 wn) ∧ W.cell? ⟨w.heap.size + 1 + 1, 1, none⟩ = some (.int .i64 gn) ∧ W.cell? ⟨w.heap.size + 1 + 1, 2, none⟩ = some (.slice A2 gd.length c2)))
  have hr2 := Aside0.mk (fun (W : World) (hW : Below w1.heap.size w1 W) => (⟨(blk_cell (blk_below q1 hW) 0).trans rfl, (blk_cell (blk_below q1 hW) 2).trans rfl, (blk_cell (blk_below q2 hW) 0).trans rfl⟩ : W.cell? ⟨w.heap.size + 1, 0, none⟩ = some (.int .i64 we) ∧ W.cell? ⟨w.heap.size + 1, 2, none⟩ = some (.slice A1 wd.length c1) ∧ W.cell? ⟨w.heap.size + 1 + 1, 0, none⟩ = some (.int .i64 ge)))
  clear q0 q1 q2
  clear H1 H2 hc1 hc2
  have e6 : (k == 6) = true := beq_iff_eq.mpr hk.out
  clear hk
  go_wp2
  go_returns
  exact ⟨rfl, hb.out⟩

set_option maxHeartbeats 8000000 in
set_option maxRecDepth 100000 in
theorem rfits_w_6_data (k p n a : Int) (A : Option Addr) (l c : Nat) (we wn : Int) (A1 : Option Addr) (c1 : Nat) (wd : List Int) (ge gn : Int) (A2 : Option Addr) (c2 : Nat) (gd : List Int) (r : Bool) (w : World) (h1 : Kd.C (Kd.int .u8) w A1 wd.length wd) (hc1 : wd.length ≤ c1) (h2 : Kd.C (Kd.int .u8) w A2 gd.length gd) (hc2 : gd.length ≤ c2)
    (hw : (we == 0) = false) (hk : k = 6) (h3 : (we == ge) = true) (h4 : ((strOfNums wd).toList == (strOfNums gd).toList) = false) :
    Calls Try.prog 9 #[.agg #[.int .i64 k, .int .i64 p, .int .i64 n, .int .u64 a, .slice A l c], .agg #[.int .i64 we, .int .i64 wn, .slice A1 wd.length c1], .agg #[.int .i64 ge, .int .i64 gn, .slice A2 gd.length c2]] w fun e w' => e = .returned (.bool false) ∧ Below w.heap.size w w' := by
  have hb := below_alloc (below_alloc (below_alloc (Below.refl _ w) (C25 k p n a A l c)) (C28 we wn A1 wd.length c1)) (C28 ge gn A2 gd.length c2)
  have q0 := blk_alloc (blk_alloc (blk_new w (C25 k p n a A l c)) (C28 we wn A1 wd.length c1)) (C28 ge gn A2 gd.length c2)
  have q1 := blk_alloc (blk_new (w.alloc (C25 k p n a A l c)) (C28 we wn A1 wd.length c1)) (C28 ge gn A2 gd.length c2)
  have q2 := blk_new ((w.alloc (C25 k p n a A l c)).alloc (C28 we wn A1 wd.length c1)) (C28 ge gn A2 gd.length c2)
  rw [World.size_alloc] at q1
  rw [World.size_alloc, World.size_alloc] at q2
  have H1 := Kd.C_below h1 hb
  have H2 := Kd.C_below h2 hb
  unfold C25 C28 at hb q0 q1 q2 H1 H2
  replace hb := Aside0.mk hb
  clear h1 h2
  replace hk := Aside0.mk hk
  go_enter Try.func9, Try.ntmps9
  go_upto_region 1 with fail
  generalize ((w.alloc (.cells #[.int .i64 k, .int .i64 p, .int .i64 n, .int .u64 a, .slice A l c] 25 (0, 0))).alloc (.cells #[.int .i64 we, .int .i64 wn, .slice A1 wd.length c1] 28 (0, 0))).alloc (.cells #[.int .i64 ge, .int .i64 gn, .slice A2 gd.length c2] 28 (0, 0)) = w1 at *
  have k0 : w1.cell? ⟨w.heap.size, 0, none⟩ = some (.int .i64 k) := (blk_cell q0 0).trans rfl
  have y0 : w1.cell? ⟨w.heap.size + 1, 0, none⟩ = some (.int .i64 we) := (blk_cell q1 0).trans rfl
  have y1 : w1.cell? ⟨w.heap.size + 1, 1, none⟩ = some (.int .i64 wn) := (blk_cell q1 1).trans rfl
  have y2 : w1.cell? ⟨w.heap.size + 1, 2, none⟩ = some (.slice A1 wd.length c1) := (blk_cell q1 2).trans rfl
  have z0 : w1.cell? ⟨w.heap.size + 1 + 1, 0, none⟩ = some (.int .i64 ge) := (blk_cell q2 0).trans rfl
  have z1 : w1.cell? ⟨w.heap.size + 1 + 1, 1, none⟩ = some (.int .i64 gn) := (blk_cell q2 1).trans rfl
  have z2 : w1.cell? ⟨w.heap.size + 1 + 1, 2, none⟩ = some (.slice A2 gd.length c2) := (blk_cell q2 2).trans rfl
  have hr1 := Aside0.mk (fun (W : World) (hW : Below w1.heap.size w1 W) => (⟨(blk_cell (blk_below q0 hW) 0).trans rfl, (blk_cell (blk_below q1 hW) 1).trans rfl, (blk_cell (blk_below q2 hW) 1).trans rfl, (blk_cell (blk_below q2 hW) 2).trans rfl⟩ : W.cell? ⟨w.heap.size, 0, none⟩ = some (.int .i64 k) ∧ W.cell? ⟨w.heap.size + 1, 1, none⟩ = some (.int .i64 wn) ∧ W.cell? ⟨w.heap.size + 1 + 1, 1, none⟩ = some (.int .i64 gn) ∧ W.cell? ⟨w.heap.size + 1 + 1, 2, none⟩ = some (.slice A2 gd.length c2)))
  have hr2 := Aside0.mk (fun (W : World) (hW : Below w1.heap.size w1 W) => (⟨(blk_cell (blk_below q1 hW) 0).trans rfl, (blk_cell (blk_below q1 hW) 2).trans rfl, (blk_cell (blk_below q2 hW) 0).trans rfl⟩ : W.cell? ⟨w.heap.size + 1, 0, none⟩ = some (.int .i64 we) ∧ W.cell? ⟨w.heap.size + 1, 2, none⟩ = some (.slice A1 wd.length c1) ∧ W.cell? ⟨w.heap.size + 1 + 1, 0, none⟩ = some (.int .i64 ge)))
  clear q0 q1 q2
  have hs1 := fun (W : World) (hW : Below w1.heap.size w1 W) => Kd.C_string (P := Try.prog) (c := c1) Try.underlying23 Try.underlying5 Try.underlying9 (Kd.C_below H1 hW)
  have hs2 := fun (W : World) (hW : Below w1.heap.size w1 W) => Kd.C_string (P := Try.prog) (c := c2) Try.underlying23 Try.underlying5 Try.underlying9 (Kd.C_below H2 hW)
  clear H1 H2 hc1 hc2
  have e6 : (k == 6) = true := beq_iff_eq.mpr hk.out
  clear hk
  have hs1' := hs1 _ (Below.refl _ _)
  have hs2' := hs2 _ (Below.refl _ _)
  clear hs1 hs2
  go_wp2
  go_returns
  exact ⟨rfl, hb.out⟩

set_option maxHeartbeats 8000000 in
set_option maxRecDepth 100000 in
theorem rfits_w_6_yes (k p n a : Int) (A : Option Addr) (l c : Nat) (we wn : Int) (A1 : Option Addr) (c1 : Nat) (wd : List Int) (ge gn : Int) (A2 : Option Addr) (c2 : Nat) (gd : List Int) (r : Bool) (w : World) (h1 : Kd.C (Kd.int .u8) w A1 wd.length wd) (hc1 : wd.length ≤ c1) (h2 : Kd.C (Kd.int .u8) w A2 gd.length gd) (hc2 : gd.length ≤ c2)
    (hw : (we == 0) = false) (hk : k = 6) (h3 : (we == ge) = true) (h4 : ((strOfNums wd).toList == (strOfNums gd).toList) = true) :
    Calls Try.prog 9 #[.agg #[.int .i64 k, .int .i64 p, .int .i64 n, .int .u64 a, .slice A l c], .agg #[.int .i64 we, .int .i64 wn, .slice A1 wd.length c1], .agg #[.int .i64 ge, .int .i64 gn, .slice A2 gd.length c2]] w fun e w' => e = .returned (.bool true) ∧ Below w.heap.size w w' := by
  have hb := below_alloc (below_alloc (below_alloc (Below.refl _ w) (C25 k p n a A l c)) (C28 we wn A1 wd.length c1)) (C28 ge gn A2 gd.length c2)
  have q0 := blk_alloc (blk_alloc (blk_new w (C25 k p n a A l c)) (C28 we wn A1 wd.length c1)) (C28 ge gn A2 gd.length c2)
  have q1 := blk_alloc (blk_new (w.alloc (C25 k p n a A l c)) (C28 we wn A1 wd.length c1)) (C28 ge gn A2 gd.length c2)
  have q2 := blk_new ((w.alloc (C25 k p n a A l c)).alloc (C28 we wn A1 wd.length c1)) (C28 ge gn A2 gd.length c2)
  rw [World.size_alloc] at q1
  rw [World.size_alloc, World.size_alloc] at q2
  have H1 := Kd.C_below h1 hb
  have H2 := Kd.C_below h2 hb
  unfold C25 C28 at hb q0 q1 q2 H1 H2
  replace hb := Aside0.mk hb
  clear h1 h2
  replace hk := Aside0.mk hk
  go_enter Try.func9, Try.ntmps9
  go_upto_region 1 with fail
  generalize ((w.alloc (.cells #[.int .i64 k, .int .i64 p, .int .i64 n, .int .u64 a, .slice A l c] 25 (0, 0))).alloc (.cells #[.int .i64 we, .int .i64 wn, .slice A1 wd.length c1] 28 (0, 0))).alloc (.cells #[.int .i64 ge, .int .i64 gn, .slice A2 gd.length c2] 28 (0, 0)) = w1 at *
  have k0 : w1.cell? ⟨w.heap.size, 0, none⟩ = some (.int .i64 k) := (blk_cell q0 0).trans rfl
  have y0 : w1.cell? ⟨w.heap.size + 1, 0, none⟩ = some (.int .i64 we) := (blk_cell q1 0).trans rfl
  have y1 : w1.cell? ⟨w.heap.size + 1, 1, none⟩ = some (.int .i64 wn) := (blk_cell q1 1).trans rfl
  have y2 : w1.cell? ⟨w.heap.size + 1, 2, none⟩ = some (.slice A1 wd.length c1) := (blk_cell q1 2).trans rfl
  have z0 : w1.cell? ⟨w.heap.size + 1 + 1, 0, none⟩ = some (.int .i64 ge) := (blk_cell q2 0).trans rfl
  have z1 : w1.cell? ⟨w.heap.size + 1 + 1, 1, none⟩ = some (.int .i64 gn) := (blk_cell q2 1).trans rfl
  have z2 : w1.cell? ⟨w.heap.size + 1 + 1, 2, none⟩ = some (.slice A2 gd.length c2) := (blk_cell q2 2).trans rfl
  have hr1 := Aside0.mk (fun (W : World) (hW : Below w1.heap.size w1 W) => (⟨(blk_cell (blk_below q0 hW) 0).trans rfl, (blk_cell (blk_below q1 hW) 1).trans rfl, (blk_cell (blk_below q2 hW) 1).trans rfl, (blk_cell (blk_below q2 hW) 2).trans rfl⟩ : W.cell? ⟨w.heap.size, 0, none⟩ = some (.int .i64 k) ∧ W.cell? ⟨w.heap.size + 1, 1, none⟩ = some (.int .i64 wn) ∧ W.cell? ⟨w.heap.size + 1 + 1, 1, none⟩ = some (.int .i64 gn) ∧ W.cell? ⟨w.heap.size + 1 + 1, 2, none⟩ = some (.slice A2 gd.length c2)))
  have hr2 := Aside0.mk (fun (W : World) (hW : Below w1.heap.size w1 W) => (⟨(blk_cell (blk_below q1 hW) 0).trans rfl, (blk_cell (blk_below q1 hW) 2).trans rfl, (blk_cell (blk_below q2 hW) 0).trans rfl⟩ : W.cell? ⟨w.heap.size + 1, 0, none⟩ = some (.int .i64 we) ∧ W.cell? ⟨w.heap.size + 1, 2, none⟩ = some (.slice A1 wd.length c1) ∧ W.cell? ⟨w.heap.size + 1 + 1, 0, none⟩ = some (.int .i64 ge)))
  clear q0 q1 q2
  have hs1 := fun (W : World) (hW : Below w1.heap.size w1 W) => Kd.C_string (P := Try.prog) (c := c1) Try.underlying23 Try.underlying5 Try.underlying9 (Kd.C_below H1 hW)
  have hs2 := fun (W : World) (hW : Below w1.heap.size w1 W) => Kd.C_string (P := Try.prog) (c := c2) Try.underlying23 Try.underlying5 Try.underlying9 (Kd.C_below H2 hW)
  clear H1 H2 hc1 hc2
  have e6 : (k == 6) = true := beq_iff_eq.mpr hk.out
  clear hk
  have hs1' := hs1 _ (Below.refl _ _)
  have hs2' := hs2 _ (Below.refl _ _)
  clear hs1 hs2
  go_wp2
  go_returns
  exact ⟨rfl, hb.out⟩

set_option maxHeartbeats 8000000 in
set_option maxRecDepth 100000 in
theorem rfits_w_7_err (k p n a : Int) (A : Option Addr) (l c : Nat) (we wn : Int) (A1 : Option Addr) (c1 : Nat) (wd : List Int) (ge gn : Int) (A2 : Option Addr) (c2 : Nat) (gd : List Int) (r : Bool) (w : World) (h1 : Kd.C (Kd.int .u8) w A1 wd.length wd) (hc1 : wd.length ≤ c1) (h2 : Kd.C (Kd.int .u8) w A2 gd.length gd) (hc2 : gd.length ≤ c2)
    (hw : (we == 0) = false) (hk : k = 7) (h3 : (we == ge) = false) :
    Calls Try.prog 9 #[.agg #[.int .i64 k, .int .i64 p, .int .i64 n, .int .u64 a, .slice A l c], .agg #[.int .i64 we, .int .i64 wn, .slice A1 wd.length c1], .agg #[.int .i64 ge, .int .i64 gn, .slice A2 gd.length c2]] w fun e w' => e = .returned (.bool false) ∧ Below w.heap.size w w' := by
  have hb := below_alloc (below_alloc (below_alloc (Below.refl _ w) (C25 k p n a A l c)) (C28 we wn A1 wd.length c1)) (C28 ge gn A2 gd.length c2)
  have q0 := blk_alloc (blk_alloc (blk_new w (C25 k p n a A l c)) (C28 we wn A1 wd.length c1)) (C28 ge gn A2 gd.length c2)
  have q1 := blk_alloc (blk_new (w.alloc (C25 k p n a A l c)) (C28 we wn A1 wd.length c1)) (C28 ge gn A2 gd.length c2)
  have q2 := blk_new ((w.alloc (C25 k p n a A l c)).alloc (C28 we wn A1 wd.length c1)) (C28 ge gn A2 gd.length c2)
  rw [World.size_alloc] at q1
  rw [World.size_alloc, World.size_alloc] at q2
  have H1 := Kd.C_below h1 hb
  have H2 := Kd.C_below h2 hb
  unfold C25 C28 at hb q0 q1 q2 H1 H2
  replace hb := Aside0.mk hb
  clear h1 h2
  replace hk := Aside0.mk hk
  go_enter Try.func9, Try.ntmps9
  go_upto_region 1 with fail
  generalize ((w.alloc (.cells #[.int .i64 k, .int .i64 p, .int .i64 n, .int .u64 a, .slice A l c] 25 (0, 0))).alloc (.cells #[.int .i64 we, .int .i64 wn, .slice A1 wd.length c1] 28 (0, 0))).alloc (.cells #[.int .i64 ge, .int .i64 gn, .slice A2 gd.length c2] 28 (0, 0)) = w1 at *
  have k0 : w1.cell? ⟨w.heap.size, 0, none⟩ = some (.int .i64 k) := (blk_cell q0 0).trans rfl
  have y0 : w1.cell? ⟨w.heap.size + 1, 0, none⟩ = some (.int .i64 we) := (blk_cell q1 0).trans rfl
  have y1 : w1.cell? ⟨w.heap.size + 1, 1, none⟩ = some (.int .i64 wn) := (blk_cell q1 1).trans rfl
  have y2 : w1.cell? ⟨w.heap.size + 1, 2, none⟩ = some (.slice A1 wd.length c1) := (blk_cell q1 2).trans rfl
  have z0 : w1.cell? ⟨w.heap.size + 1 + 1, 0, none⟩ = some (.int .i64 ge) := (blk_cell q2 0).trans rfl
  have z1 : w1.cell? ⟨w.heap.size + 1 + 1, 1, none⟩ = some (.int .i64 gn) := (blk_cell q2 1).trans rfl
  have z2 : w1.cell? ⟨w.heap.size + 1 + 1, 2, none⟩ = some (.slice A2 gd.length c2) := (blk_cell q2 2).trans rfl
  have hr1 := Aside0.mk (fun (W : World) (hW : Below w1.heap.size w1 W) => (⟨(blk_cell (blk_below q0 hW) 0).trans rfl, (blk_cell (blk_below q1 hW) 1).trans rfl, (blk_cell (blk_below q2 hW) 1).trans rfl, (blk_cell (blk_below q2 hW) 2).trans rfl⟩ : W.cell? ⟨w.heap.size, 0, none⟩ = some (.int .i64 k) ∧ W.cell? ⟨w.heap.size + 1, 1, none⟩ = some (.int .i64 wn) ∧ W.cell? ⟨w.heap.size + 1 + 1, 1, none⟩ = some (.int .i64 gn) ∧ W.cell? ⟨w.heap.size + 1 + 1, 2, none⟩ = some (.slice A2 gd.length c2)))
  have hr2 := Aside0.mk (fun (W : World) (hW : Below w1.heap.size w1 W) => (⟨(blk_cell (blk_below q1 hW) 0).trans rfl, (blk_cell (blk_below q1 hW) 2).trans rfl, (blk_cell (blk_below q2 hW) 0).trans rfl⟩ : W.cell? ⟨w.heap.size + 1, 0, none⟩ = some (.int .i64 we) ∧ W.cell? ⟨w.heap.size + 1, 2, none⟩ = some (.slice A1 wd.length c1) ∧ W.cell? ⟨w.heap.size + 1 + 1, 0, none⟩ = some (.int .i64 ge)))
  clear q0 q1 q2
  clear H1 H2 hc1 hc2
  have e6 : (k == 6) = false := beq_eq_false_iff_ne.mpr (by have := hk.out; omega)
  have e7 : (k == 7) = true := beq_iff_eq.mpr hk.out
  clear hk
  go_wp2
  go_returns
  exact ⟨rfl, hb.out⟩

set_option maxHeartbeats 8000000 in
set_option maxRecDepth 100000 in
theorem rfits_w_7_data (k p n a : Int) (A : Option Addr) (l c : Nat) (we wn : Int) (A1 : Option Addr) (c1 : Nat) (wd : List Int) (ge gn : Int) (A2 : Option Addr) (c2 : Nat) (gd : List Int) (r : Bool) (w : World) (h1 : Kd.C (Kd.int .u8) w A1 wd.length wd) (hc1 : wd.length ≤ c1) (h2 : Kd.C (Kd.int .u8) w A2 gd.length gd) (hc2 : gd.length ≤ c2)
    (hw : (we == 0) = false) (hk : k = 7) (h3 : (we == ge) = true) (h4 : ((strOfNums wd).toList == (strOfNums gd).toList) = false) :
    Calls Try.prog 9 #[.agg #[.int .i64 k, .int .i64 p, .int .i64 n, .int .u64 a, .slice A l c], .agg #[.int .i64 we, .int .i64 wn, .slice A1 wd.length c1], .agg #[.int .i64 ge, .int .i64 gn, .slice A2 gd.length c2]] w fun e w' => e = .returned (.bool false) ∧ Below w.heap.size w w' := by
  have hb := below_alloc (below_alloc (below_alloc (Below.refl _ w) (C25 k p n a A l c)) (C28 we wn A1 wd.length c1)) (C28 ge gn A2 gd.length c2)
  have q0 := blk_alloc (blk_alloc (blk_new w (C25 k p n a A l c)) (C28 we wn A1 wd.length c1)) (C28 ge gn A2 gd.length c2)
  have q1 := blk_alloc (blk_new (w.alloc (C25 k p n a A l c)) (C28 we wn A1 wd.length c1)) (C28 ge gn A2 gd.length c2)
  have q2 := blk_new ((w.alloc (C25 k p n a A l c)).alloc (C28 we wn A1 wd.length c1)) (C28 ge gn A2 gd.length c2)
  rw [World.size_alloc] at q1
  rw [World.size_alloc, World.size_alloc] at q2
  have H1 := Kd.C_below h1 hb
  have H2 := Kd.C_below h2 hb
  unfold C25 C28 at hb q0 q1 q2 H1 H2
  replace hb := Aside0.mk hb
  clear h1 h2
  replace hk := Aside0.mk hk
  go_enter Try.func9, Try.ntmps9
  go_upto_region 1 with fail
  generalize ((w.alloc (.cells #[.int .i64 k, .int .i64 p, .int .i64 n, .int .u64 a, .slice A l c] 25 (0, 0))).alloc (.cells #[.int .i64 we, .int .i64 wn, .slice A1 wd.length c1] 28 (0, 0))).alloc (.cells #[.int .i64 ge, .int .i64 gn, .slice A2 gd.length c2] 28 (0, 0)) = w1 at *
  have k0 : w1.cell? ⟨w.heap.size, 0, none⟩ = some (.int .i64 k) := (blk_cell q0 0).trans rfl
  have y0 : w1.cell? ⟨w.heap.size + 1, 0, none⟩ = some (.int .i64 we) := (blk_cell q1 0).trans rfl
  have y1 : w1.cell? ⟨w.heap.size + 1, 1, none⟩ = some (.int .i64 wn) := (blk_cell q1 1).trans rfl
  have y2 : w1.cell? ⟨w.heap.size + 1, 2, none⟩ = some (.slice A1 wd.length c1) := (blk_cell q1 2).trans rfl
  have z0 : w1.cell? ⟨w.heap.size + 1 + 1, 0, none⟩ = some (.int .i64 ge) := (blk_cell q2 0).trans rfl
  have z1 : w1.cell? ⟨w.heap.size + 1 + 1, 1, none⟩ = some (.int .i64 gn) := (blk_cell q2 1).trans rfl
  have z2 : w1.cell? ⟨w.heap.size + 1 + 1, 2, none⟩ = some (.slice A2 gd.length c2) := (blk_cell q2 2).trans rfl
  have hr1 := Aside0.mk (fun (W : World) (hW : Below w1.heap.size w1 W) => (⟨(blk_cell (blk_below q0 hW) 0).trans rfl, (blk_cell (blk_below q1 hW) 1).trans rfl, (blk_cell (blk_below q2 hW) 1).trans rfl, (blk_cell (blk_below q2 hW) 2).trans rfl⟩ : W.cell? ⟨w.heap.size, 0, none⟩ = some (.int .i64 k) ∧ W.cell? ⟨w.heap.size + 1, 1, none⟩ = some (.int .i64 wn) ∧ W.cell? ⟨w.heap.size + 1 + 1, 1, none⟩ = some (.int .i64 gn) ∧ W.cell? ⟨w.heap.size + 1 + 1, 2, none⟩ = some (.slice A2 gd.length c2)))
  have hr2 := Aside0.mk (fun (W : World) (hW : Below w1.heap.size w1 W) => (⟨(blk_cell (blk_below q1 hW) 0).trans rfl, (blk_cell (blk_below q1 hW) 2).trans rfl, (blk_cell (blk_below q2 hW) 0).trans rfl⟩ : W.cell? ⟨w.heap.size + 1, 0, none⟩ = some (.int .i64 we) ∧ W.cell? ⟨w.heap.size + 1, 2, none⟩ = some (.slice A1 wd.length c1) ∧ W.cell? ⟨w.heap.size + 1 + 1, 0, none⟩ = some (.int .i64 ge)))
  clear q0 q1 q2
  have hs1 := fun (W : World) (hW : Below w1.heap.size w1 W) => Kd.C_string (P := Try.prog) (c := c1) Try.underlying23 Try.underlying5 Try.underlying9 (Kd.C_below H1 hW)
  have hs2 := fun (W : World) (hW : Below w1.heap.size w1 W) => Kd.C_string (P := Try.prog) (c := c2) Try.underlying23 Try.underlying5 Try.underlying9 (Kd.C_below H2 hW)
  clear H1 H2 hc1 hc2
  have e6 : (k == 6) = false := beq_eq_false_iff_ne.mpr (by have := hk.out; omega)
  have e7 : (k == 7) = true := beq_iff_eq.mpr hk.out
  clear hk
  have hs1' := hs1 _ (Below.refl _ _)
  have hs2' := hs2 _ (Below.refl _ _)
  clear hs1 hs2
  go_wp2
  go_returns
  exact ⟨rfl, hb.out⟩

set_option maxHeartbeats 8000000 in
set_option maxRecDepth 100000 in
theorem rfits_w_7_yes (k p n a : Int) (A : Option Addr) (l c : Nat) (we wn : Int) (A1 : Option Addr) (c1 : Nat) (wd : List Int) (ge gn : Int) (A2 : Option Addr) (c2 : Nat) (gd : List Int) (r : Bool) (w : World) (h1 : Kd.C (Kd.int .u8) w A1 wd.length wd) (hc1 : wd.length ≤ c1) (h2 : Kd.C (Kd.int .u8) w A2 gd.length gd) (hc2 : gd.length ≤ c2)
    (hw : (we == 0) = false) (hk : k = 7) (h3 : (we == ge) = true) (h4 : ((strOfNums wd).toList == (strOfNums gd).toList) = true) :
    Calls Try.prog 9 #[.agg #[.int .i64 k, .int .i64 p, .int .i64 n, .int .u64 a, .slice A l c], .agg #[.int .i64 we, .int .i64 wn, .slice A1 wd.length c1], .agg #[.int .i64 ge, .int .i64 gn, .slice A2 gd.length c2]] w fun e w' => e = .returned (.bool true) ∧ Below w.heap.size w w' := by
  have hb := below_alloc (below_alloc (below_alloc (Below.refl _ w) (C25 k p n a A l c)) (C28 we wn A1 wd.length c1)) (C28 ge gn A2 gd.length c2)
  have q0 := blk_alloc (blk_alloc (blk_new w (C25 k p n a A l c)) (C28 we wn A1 wd.length c1)) (C28 ge gn A2 gd.length c2)
  have q1 := blk_alloc (blk_new (w.alloc (C25 k p n a A l c)) (C28 we wn A1 wd.length c1)) (C28 ge gn A2 gd.length c2)
  have q2 := blk_new ((w.alloc (C25 k p n a A l c)).alloc (C28 we wn A1 wd.length c1)) (C28 ge gn A2 gd.length c2)
  rw [World.size_alloc] at q1
  rw [World.size_alloc, World.size_alloc] at q2
  have H1 := Kd.C_below h1 hb
  have H2 := Kd.C_below h2 hb
  unfold C25 C28 at hb q0 q1 q2 H1 H2
  replace hb := Aside0.mk hb
  clear h1 h2
  replace hk := Aside0.mk hk
  go_enter Try.func9, Try.ntmps9
  go_upto_region 1 with fail
  generalize ((w.alloc (.cells #[.int .i64 k, .int .i64 p, .int .i64 n, .int .u64 a, .slice A l c] 25 (0, 0))).alloc (.cells #[.int .i64 we, .int .i64 wn, .slice A1 wd.length c1] 28 (0, 0))).alloc (.cells #[.int .i64 ge, .int .i64 gn, .slice A2 gd.length c2] 28 (0, 0)) = w1 at *
  have k0 : w1.cell? ⟨w.heap.size, 0, none⟩ = some (.int .i64 k) := (blk_cell q0 0).trans rfl
  have y0 : w1.cell? ⟨w.heap.size + 1, 0, none⟩ = some (.int .i64 we) := (blk_cell q1 0).trans rfl
  have y1 : w1.cell? ⟨w.heap.size + 1, 1, none⟩ = some (.int .i64 wn) := (blk_cell q1 1).trans rfl
  have y2 : w1.cell? ⟨w.heap.size + 1, 2, none⟩ = some (.slice A1 wd.length c1) := (blk_cell q1 2).trans rfl
  have z0 : w1.cell? ⟨w.heap.size + 1 + 1, 0, none⟩ = some (.int .i64 ge) := (blk_cell q2 0).trans rfl
  have z1 : w1.cell? ⟨w.heap.size + 1 + 1, 1, none⟩ = some (.int .i64 gn) := (blk_cell q2 1).trans rfl
  have z2 : w1.cell? ⟨w.heap.size + 1 + 1, 2, none⟩ = some (.slice A2 gd.length c2) := (blk_cell q2 2).trans rfl
  have hr1 := Aside0.mk (fun (W : World) (hW : Below w1.heap.size w1 W) => (⟨(blk_cell (blk_below q0 hW) 0).trans rfl, (blk_cell (blk_below q1 hW) 1).trans rfl, (blk_cell (blk_below q2 hW) 1).trans rfl, (blk_cell (blk_below q2 hW) 2).trans rfl⟩ : W.cell? ⟨w.heap.size, 0, none⟩ = some (.int .i64 k) ∧ W.cell? ⟨w.heap.size + 1, 1, none⟩ = some (.int .i64 wn) ∧ W.cell? ⟨w.heap.size + 1 + 1, 1, none⟩ = some (.int .i64 gn) ∧ W.cell? ⟨w.heap.size + 1 + 1, 2, none⟩ = some (.slice A2 gd.length c2)))
  have hr2 := Aside0.mk (fun (W : World) (hW : Below w1.heap.size w1 W) => (⟨(blk_cell (blk_below q1 hW) 0).trans rfl, (blk_cell (blk_below q1 hW) 2).trans rfl, (blk_cell (blk_below q2 hW) 0).trans rfl⟩ : W.cell? ⟨w.heap.size + 1, 0, none⟩ = some (.int .i64 we) ∧ W.cell? ⟨w.heap.size + 1, 2, none⟩ = some (.slice A1 wd.length c1) ∧ W.cell? ⟨w.heap.size + 1 + 1, 0, none⟩ = some (.int .i64 ge)))
  clear q0 q1 q2
  have hs1 := fun (W : World) (hW : Below w1.heap.size w1 W) => Kd.C_string (P := Try.prog) (c := c1) Try.underlying23 Try.underlying5 Try.underlying9 (Kd.C_below H1 hW)
  have hs2 := fun (W : World) (hW : Below w1.heap.size w1 W) => Kd.C_string (P := Try.prog) (c := c2) Try.underlying23 Try.underlying5 Try.underlying9 (Kd.C_below H2 hW)
  clear H1 H2 hc1 hc2
  have e6 : (k == 6) = false := beq_eq_false_iff_ne.mpr (by have := hk.out; omega)
  have e7 : (k == 7) = true := beq_iff_eq.mpr hk.out
  clear hk
  have hs1' := hs1 _ (Below.refl _ _)
  have hs2' := hs2 _ (Below.refl _ _)
  clear hs1 hs2
  go_wp2
  go_returns
  exact ⟨rfl, hb.out⟩

set_option maxHeartbeats 8000000 in
set_option maxRecDepth 100000 in
theorem rfits_w_8_err (k p n a : Int) (A : Option Addr) (l c : Nat) (we wn : Int) (A1 : Option Addr) (c1 : Nat) (wd : List Int) (ge gn : Int) (A2 : Option Addr) (c2 : Nat) (gd : List Int) (r : Bool) (w : World) (h1 : Kd.C (Kd.int .u8) w A1 wd.length wd) (hc1 : wd.length ≤ c1) (h2 : Kd.C (Kd.int .u8) w A2 gd.length gd) (hc2 : gd.length ≤ c2)
    (hw : (we == 0) = false) (hk : k = 8) (h3 : (we == ge) = false) :
    Calls Try.prog 9 #[.agg #[.int .i64 k, .int .i64 p, .int .i64 n, .int .u64 a, .slice A l c], .agg #[.int .i64 we, .int .i64 wn, .slice A1 wd.length c1], .agg #[.int .i64 ge, .int .i64 gn, .slice A2 gd.length c2]] w fun e w' => e = .returned (.bool false) ∧ Below w.heap.size w w' := by
  have hb := below_alloc (below_alloc (below_alloc (Below.refl _ w) (C25 k p n a A l c)) (C28 we wn A1 wd.length c1)) (C28 ge gn A2 gd.length c2)
  have q0 := blk_alloc (blk_alloc (blk_new w (C25 k p n a A l c)) (C28 we wn A1 wd.length c1)) (C28 ge gn A2 gd.length c2)
  have q1 := blk_alloc (blk_new (w.alloc (C25 k p n a A l c)) (C28 we wn A1 wd.length c1)) (C28 ge gn A2 gd.length c2)
  have q2 := blk_new ((w.alloc (C25 k p n a A l c)).alloc (C28 we wn A1 wd.length c1)) (C28 ge gn A2 gd.length c2)
  rw [World.size_alloc] at q1
  rw [World.size_alloc, World.size_alloc] at q2
  have H1 := Kd.C_below h1 hb
  have H2 := Kd.C_below h2 hb
  unfold C25 C28 at hb q0 q1 q2 H1 H2
  replace hb := Aside0.mk hb
  clear h1 h2
  replace hk := Aside0.mk hk
  go_enter Try.func9, Try.ntmps9
  go_upto_region 1 with fail
  generalize ((w.alloc (.cells #[.int .i64 k, .int .i64 p, .int .i64 n, .int .u64 a, .slice A l c] 25 (0, 0))).alloc (.cells #[.int .i64 we, .int .i64 wn, .slice A1 wd.length c1] 28 (0, 0))).alloc (.cells #[.int .i64 ge, .int .i64 gn, .slice A2 gd.length c2] 28 (0, 0)) = w1 at *
  have k0 : w1.cell? ⟨w.heap.size, 0, none⟩ = some (.int .i64 k) := (blk_cell q0 0).trans rfl
  have y0 : w1.cell? ⟨w.heap.size + 1, 0, none⟩ = some (.int .i64 we) := (blk_cell q1 0).trans rfl
  have y1 : w1.cell? ⟨w.heap.size + 1, 1, none⟩ = some (.int .i64 wn) := (blk_cell q1 1).trans rfl
  have y2 : w1.cell? ⟨w.heap.size + 1, 2, none⟩ = some (.slice A1 wd.length c1) := (blk_cell q1 2).trans rfl
  have z0 : w1.cell? ⟨w.heap.size + 1 + 1, 0, none⟩ = some (.int .i64 ge) := (blk_cell q2 0).trans rfl
  have z1 : w1.cell? ⟨w.heap.size + 1 + 1, 1, none⟩ = some (.int .i64 gn) := (blk_cell q2 1).trans rfl
  have z2 : w1.cell? ⟨w.heap.size + 1 + 1, 2, none⟩ = some (.slice A2 gd.length c2) := (blk_cell q2 2).trans rfl
  have hr1 := Aside0.mk (fun (W : World) (hW : Below w1.heap.size w1 W) => (⟨(blk_cell (blk_below q0 hW) 0).trans rfl, (blk_cell (blk_below q1 hW) 1).trans rfl, (blk_cell (blk_below q2 hW) 1).trans rfl, (blk_cell (blk_below q2 hW) 2).trans rfl⟩ : W.cell? ⟨w.heap.size, 0, none⟩ = some (.int .i64 k) ∧ W.cell? ⟨w.heap.size + 1, 1, none⟩ = some (.int .i64 wn) ∧ W.cell? ⟨w.heap.size + 1 + 1, 1, none⟩ = some (.int .i64 gn) ∧ W.cell? ⟨w.heap.size + 1 + 1, 2, none⟩ = some (.slice A2 gd.length c2)))
  have hr2 := Aside0.mk (fun (W : World) (hW : Below w1.heap.size w1 W) => (⟨(blk_cell (blk_below q1 hW) 0).trans rfl, (blk_cell (blk_below q1 hW) 2).trans rfl, (blk_cell (blk_below q2 hW) 0).trans rfl⟩ : W.cell? ⟨w.heap.size + 1, 0, none⟩ = some (.int .i64 we) ∧ W.cell? ⟨w.heap.size + 1, 2, none⟩ = some (.slice A1 wd.length c1) ∧ W.cell? ⟨w.heap.size + 1 + 1, 0, none⟩ = some (.int .i64 ge)))
  clear q0 q1 q2
  clear H1 H2 hc1 hc2
  have e6 : (k == 6) = false := beq_eq_false_iff_ne.mpr (by have := hk.out; omega)
  have e7 : (k == 7) = false := beq_eq_false_iff_ne.mpr (by have := hk.out; omega)
  have e8 : (k == 8) = true := beq_iff_eq.mpr hk.out
  clear hk
  go_wp2
  go_returns
  exact ⟨rfl, hb.out⟩

set_option maxHeartbeats 8000000 in
set_option maxRecDepth 100000 in
theorem rfits_w_8_data (k p n a : Int) (A : Option Addr) (l c : Nat) (we wn : Int) (A1 : Option Addr) (c1 : Nat) (wd : List Int) (ge gn : Int) (A2 : Option Addr) (c2 : Nat) (gd : List Int) (r : Bool) (w : World) (h1 : Kd.C (Kd.int .u8) w A1 wd.length wd) (hc1 : wd.length ≤ c1) (h2 : Kd.C (Kd.int .u8) w A2 gd.length gd) (hc2 : gd.length ≤ c2)
    (hw : (we == 0) = false) (hk : k = 8) (h3 : (we == ge) = true) (h4 : ((strOfNums wd).toList == (strOfNums gd).toList) = false) :
    Calls Try.prog 9 #[.agg #[.int .i64 k, .int .i64 p, .int .i64 n, .int .u64 a, .slice A l c], .agg #[.int .i64 we, .int .i64 wn, .slice A1 wd.length c1], .agg #[.int .i64 ge, .int .i64 gn, .slice A2 gd.length c2]] w fun e w' => e = .returned (.bool false) ∧ Below w.heap.size w w' := by
  have hb := below_alloc (below_alloc (below_alloc (Below.refl _ w) (C25 k p n a A l c)) (C28 we wn A1 wd.length c1)) (C28 ge gn A2 gd.length c2)
  have q0 := blk_alloc (blk_alloc (blk_new w (C25 k p n a A l c)) (C28 we wn A1 wd.length c1)) (C28 ge gn A2 gd.length c2)
  have q1 := blk_alloc (blk_new (w.alloc (C25 k p n a A l c)) (C28 we wn A1 wd.length c1)) (C28 ge gn A2 gd.length c2)
  have q2 := blk_new ((w.alloc (C25 k p n a A l c)).alloc (C28 we wn A1 wd.length c1)) (C28 ge gn A2 gd.length c2)
  rw [World.size_alloc] at q1
  rw [World.size_alloc, World.size_alloc] at q2
  have H1 := Kd.C_below h1 hb
  have H2 := Kd.C_below h2 hb
  unfold C25 C28 at hb q0 q1 q2 H1 H2
  replace hb := Aside0.mk hb
  clear h1 h2
  replace hk := Aside0.mk hk
  go_enter Try.func9, Try.ntmps9
  go_upto_region 1 with fail
  generalize ((w.alloc (.cells #[.int .i64 k, .int .i64 p, .int .i64 n, .int .u64 a, .slice A l c] 25 (0, 0))).alloc (.cells #[.int .i64 we, .int .i64 wn, .slice A1 wd.length c1] 28 (0, 0))).alloc (.cells #[.int .i64 ge, .int .i64 gn, .slice A2 gd.length c2] 28 (0, 0)) = w1 at *
  have k0 : w1.cell? ⟨w.heap.size, 0, none⟩ = some (.int .i64 k) := (blk_cell q0 0).trans rfl
  have y0 : w1.cell? ⟨w.heap.size + 1, 0, none⟩ = some (.int .i64 we) := (blk_cell q1 0).trans rfl
  have y1 : w1.cell? ⟨w.heap.size + 1, 1, none⟩ = some (.int .i64 wn) := (blk_cell q1 1).trans rfl
  have y2 : w1.cell? ⟨w.heap.size + 1, 2, none⟩ = some (.slice A1 wd.length c1) := (blk_cell q1 2).trans rfl
  have z0 : w1.cell? ⟨w.heap.size + 1 + 1, 0, none⟩ = some (.int .i64 ge) := (blk_cell q2 0).trans rfl
  have z1 : w1.cell? ⟨w.heap.size + 1 + 1, 1, none⟩ = some (.int .i64 gn) := (blk_cell q2 1).trans rfl
  have z2 : w1.cell? ⟨w.heap.size + 1 + 1, 2, none⟩ = some (.slice A2 gd.length c2) := (blk_cell q2 2).trans rfl
  have hr1 := Aside0.mk (fun (W : World) (hW : Below w1.heap.size w1 W) => (⟨(blk_cell (blk_below q0 hW) 0).trans rfl, (blk_cell (blk_below q1 hW) 1).trans rfl, (blk_cell (blk_below q2 hW) 1).trans rfl, (blk_cell (blk_below q2 hW) 2).trans rfl⟩ : W.cell? ⟨w.heap.size, 0, none⟩ = some (.int .i64 k) ∧ W.cell? ⟨w.heap.size + 1, 1, none⟩ = some (.int .i64 wn) ∧ W.cell? ⟨w.heap.size + 1 + 1, 1, none⟩ = some (.int .i64 gn) ∧ W.cell? ⟨w.heap.size + 1 + 1, 2, none⟩ = some (.slice A2 gd.length c2)))
  have hr2 := Aside0.mk (fun (W : World) (hW : Below w1.heap.size w1 W) => (⟨(blk_cell (blk_below q1 hW) 0).trans rfl, (blk_cell (blk_below q1 hW) 2).trans rfl, (blk_cell (blk_below q2 hW) 0).trans rfl⟩ : W.cell? ⟨w.heap.size + 1, 0, none⟩ = some (.int .i64 we) ∧ W.cell? ⟨w.heap.size + 1, 2, none⟩ = some (.slice A1 wd.length c1) ∧ W.cell? ⟨w.heap.size + 1 + 1, 0, none⟩ = some (.int .i64 ge)))
  clear q0 q1 q2
  have hs1 := fun (W : World) (hW : Below w1.heap.size w1 W) => Kd.C_string (P := Try.prog) (c := c1) Try.underlying23 Try.underlying5 Try.underlying9 (Kd.C_below H1 hW)
  have hs2 := fun (W : World) (hW : Below w1.heap.size w1 W) => Kd.C_string (P := Try.prog) (c := c2) Try.underlying23 Try.underlying5 Try.underlying9 (Kd.C_below H2 hW)
  clear H1 H2 hc1 hc2
  have e6 : (k == 6) = false := beq_eq_false_iff_ne.mpr (by have := hk.out; omega)
  have e7 : (k == 7) = false := beq_eq_false_iff_ne.mpr (by have := hk.out; omega)
  have e8 : (k == 8) = true := beq_iff_eq.mpr hk.out
  clear hk
  have hs1' := hs1 _ (Below.refl _ _)
  have hs2' := hs2 _ (Below.refl _ _)
  clear hs1 hs2
  go_wp2
  go_returns
  exact ⟨rfl, hb.out⟩

set_option maxHeartbeats 8000000 in
set_option maxRecDepth 100000 in
theorem rfits_w_8_yes (k p n a : Int) (A : Option Addr) (l c : Nat) (we wn : Int) (A1 : Option Addr) (c1 : Nat) (wd : List Int) (ge gn : Int) (A2 : Option Addr) (c2 : Nat) (gd : List Int) (r : Bool) (w : World) (h1 : Kd.C (Kd.int .u8) w A1 wd.length wd) (hc1 : wd.length ≤ c1) (h2 : Kd.C (Kd.int .u8) w A2 gd.length gd) (hc2 : gd.length ≤ c2)
    (hw : (we == 0) = false) (hk : k = 8) (h3 : (we == ge) = true) (h4 : ((strOfNums wd).toList == (strOfNums gd).toList) = true) :
    Calls Try.prog 9 #[.agg #[.int .i64 k, .int .i64 p, .int .i64 n, .int .u64 a, .slice A l c], .agg #[.int .i64 we, .int .i64 wn, .slice A1 wd.length c1], .agg #[.int .i64 ge, .int .i64 gn, .slice A2 gd.length c2]] w fun e w' => e = .returned (.bool true) ∧ Below w.heap.size w w' := by
  have hb := below_alloc (below_alloc (below_alloc (Below.refl _ w) (C25 k p n a A l c)) (C28 we wn A1 wd.length c1)) (C28 ge gn A2 gd.length c2)
  have q0 := blk_alloc (blk_alloc (blk_new w (C25 k p n a A l c)) (C28 we wn A1 wd.length c1)) (C28 ge gn A2 gd.length c2)
  have q1 := blk_alloc (blk_new (w.alloc (C25 k p n a A l c)) (C28 we wn A1 wd.length c1)) (C28 ge gn A2 gd.length c2)
  have q2 := blk_new ((w.alloc (C25 k p n a A l c)).alloc (C28 we wn A1 wd.length c1)) (C28 ge gn A2 gd.length c2)
  rw [World.size_alloc] at q1
  rw [World.size_alloc, World.size_alloc] at q2
  have H1 := Kd.C_below h1 hb
  have H2 := Kd.C_below h2 hb
  unfold C25 C28 at hb q0 q1 q2 H1 H2
  replace hb := Aside0.mk hb
  clear h1 h2
  replace hk := Aside0.mk hk
  go_enter Try.func9, Try.ntmps9
  go_upto_region 1 with fail
  generalize ((w.alloc (.cells #[.int .i64 k, .int .i64 p, .int .i64 n, .int .u64 a, .slice A l c] 25 (0, 0))).alloc (.cells #[.int .i64 we, .int .i64 wn, .slice A1 wd.length c1] 28 (0, 0))).alloc (.cells #[.int .i64 ge, .int .i64 gn, .slice A2 gd.length c2] 28 (0, 0)) = w1 at *
  have k0 : w1.cell? ⟨w.heap.size, 0, none⟩ = some (.int .i64 k) := (blk_cell q0 0).trans rfl
  have y0 : w1.cell? ⟨w.heap.size + 1, 0, none⟩ = some (.int .i64 we) := (blk_cell q1 0).trans rfl
  have y1 : w1.cell? ⟨w.heap.size + 1, 1, none⟩ = some (.int .i64 wn) := (blk_cell q1 1).trans rfl
  have y2 : w1.cell? ⟨w.heap.size + 1, 2, none⟩ = some (.slice A1 wd.length c1) := (blk_cell q1 2).trans rfl
  have z0 : w1.cell? ⟨w.heap.size + 1 + 1, 0, none⟩ = some (.int .i64 ge) := (blk_cell q2 0).trans rfl
  have z1 : w1.cell? ⟨w.heap.size + 1 + 1, 1, none⟩ = some (.int .i64 gn) := (blk_cell q2 1).trans rfl
  have z2 : w1.cell? ⟨w.heap.size + 1 + 1, 2, none⟩ = some (.slice A2 gd.length c2) := (blk_cell q2 2).trans rfl
  have hr1 := Aside0.mk (fun (W : World) (hW : Below w1.heap.size w1 W) => (⟨(blk_cell (blk_below q0 hW) 0).trans rfl, (blk_cell (blk_below q1 hW) 1).trans rfl, (blk_cell (blk_below q2 hW) 1).trans rfl, (blk_cell (blk_below q2 hW) 2).trans rfl⟩ : W.cell? ⟨w.heap.size, 0, none⟩ = some (.int .i64 k) ∧ W.cell? ⟨w.heap.size + 1, 1, none⟩ = some (.int .i64 wn) ∧ W.cell? ⟨w.heap.size + 1 + 1, 1, none⟩ = some (.int .i64 gn) ∧ W.cell? ⟨w.heap.size + 1 + 1, 2, none⟩ = some (.slice A2 gd.length c2)))
  have hr2 := Aside0.mk (fun (W : World) (hW : Below w1.heap.size w1 W) => (⟨(blk_cell (blk_below q1 hW) 0).trans rfl, (blk_cell (blk_below q1 hW) 2).trans rfl, (blk_cell (blk_below q2 hW) 0).trans rfl⟩ : W.cell? ⟨w.heap.size + 1, 0, none⟩ = some (.int .i64 we) ∧ W.cell? ⟨w.heap.size + 1, 2, none⟩ = some (.slice A1 wd.length c1) ∧ W.cell? ⟨w.heap.size + 1 + 1, 0, none⟩ = some (.int .i64 ge)))
  clear q0 q1 q2
  have hs1 := fun (W : World) (hW : Below w1.heap.size w1 W) => Kd.C_string (P := Try.prog) (c := c1) Try.underlying23 Try.underlying5 Try.underlying9 (Kd.C_below H1 hW)
  have hs2 := fun (W : World) (hW : Below w1.heap.size w1 W) => Kd.C_string (P := Try.prog) (c := c2) Try.underlying23 Try.underlying5 Try.underlying9 (Kd.C_below H2 hW)
  clear H1 H2 hc1 hc2
  have e6 : (k == 6) = false := beq_eq_false_iff_ne.mpr (by have := hk.out; omega)
  have e7 : (k == 7) = false := beq_eq_false_iff_ne.mpr (by have := hk.out; omega)
  have e8 : (k == 8) = true := beq_iff_eq.mpr hk.out
  clear hk
  have hs1' := hs1 _ (Below.refl _ _)
  have hs2' := hs2 _ (Below.refl _ _)
  clear hs1 hs2
  go_wp2
  go_returns
  exact ⟨rfl, hb.out⟩

set_option maxHeartbeats 8000000 in
set_option maxRecDepth 100000 in
theorem rfits_w_9_err (k p n a : Int) (A : Option Addr) (l c : Nat) (we wn : Int) (A1 : Option Addr) (c1 : Nat) (wd : List Int) (ge gn : Int) (A2 : Option Addr) (c2 : Nat) (gd : List Int) (r : Bool) (w : World) (h1 : Kd.C (Kd.int .u8) w A1 wd.length wd) (hc1 : wd.length ≤ c1) (h2 : Kd.C (Kd.int .u8) w A2 gd.length gd) (hc2 : gd.length ≤ c2)
    (hw : (we == 0) = false) (hk : k = 9) (h3 : (we == ge) = false) :
    Calls Try.prog 9 #[.agg #[.int .i64 k, .int .i64 p, .int .i64 n, .int .u64 a, .slice A l c], .agg #[.int .i64 we, .int .i64 wn, .slice A1 wd.length c1], .agg #[.int .i64 ge, .int .i64 gn, .slice A2 gd.length c2]] w fun e w' => e = .returned (.bool false) ∧ Below w.heap.size w w' := by
  have hb := below_alloc (below_alloc (below_alloc (Below.refl _ w) (C25 k p n a A l c)) (C28 we wn A1 wd.length c1)) (C28 ge gn A2 gd.length c2)
  have q0 := blk_alloc (blk_alloc (blk_new w (C25 k p n a A l c)) (C28 we wn A1 wd.length c1)) (C28 ge gn A2 gd.length c2)
  have q1 := blk_alloc (blk_new (w.alloc (C25 k p n a A l c)) (C28 we wn A1 wd.length c1)) (C28 ge gn A2 gd.length c2)
  have q2 := blk_new ((w.alloc (C25 k p n a A l c)).alloc (C28 we wn A1 wd.length c1)) (C28 ge gn A2 gd.length c2)
  rw [World.size_alloc] at q1
  rw [World.size_alloc, World.size_alloc] at q2
  have H1 := Kd.C_below h1 hb
  have H2 := Kd.C_below h2 hb
  unfold C25 C28 at hb q0 q1 q2 H1 H2
  replace hb := Aside0.mk hb
  clear h1 h2
  replace hk := Aside0.mk hk
  go_enter Try.func9, Try.ntmps9
  go_upto_region 1 with fail
  generalize ((w.alloc (.cells #[.int .i64 k, .int .i64 p, .int .i64 n, .int .u64 a, .slice A l c] 25 (0, 0))).alloc (.cells #[.int .i64 we, .int .i64 wn, .slice A1 wd.length c1] 28 (0, 0))).alloc (.cells #[.int .i64 ge, .int .i64 gn, .slice A2 gd.length c2] 28 (0, 0)) = w1 at *
  have k0 : w1.cell? ⟨w.heap.size, 0, none⟩ = some (.int .i64 k) := (blk_cell q0 0).trans rfl
  have y0 : w1.cell? ⟨w.heap.size + 1, 0, none⟩ = some (.int .i64 we) := (blk_cell q1 0).trans rfl
  have y1 : w1.cell? ⟨w.heap.size + 1, 1, none⟩ = some (.int .i64 wn) := (blk_cell q1 1).trans rfl
  have y2 : w1.cell? ⟨w.heap.size + 1, 2, none⟩ = some (.slice A1 wd.length c1) := (blk_cell q1 2).trans rfl
  have z0 : w1.cell? ⟨w.heap.size + 1 + 1, 0, none⟩ = some (.int .i64 ge) := (blk_cell q2 0).trans rfl
  have z1 : w1.cell? ⟨w.heap.size + 1 + 1, 1, none⟩ = some (.int .i64 gn) := (blk_cell q2 1).trans rfl
  have z2 : w1.cell? ⟨w.heap.size + 1 + 1, 2, none⟩ = some (.slice A2 gd.length c2) := (blk_cell q2 2).trans rfl
  have hr1 := Aside0.mk (fun (W : World) (hW : Below w1.heap.size w1 W) => (⟨(blk_cell (blk_below q0 hW) 0).trans rfl, (blk_cell (blk_below q1 hW) 1).trans rfl, (blk_cell (blk_below q2 hW) 1).trans rfl, (blk_cell (blk_below q2 hW) 2).trans rfl⟩ : W.cell? ⟨w.heap.size, 0, none⟩ = some (.int .i64 k) ∧ W.cell? ⟨w.heap.size + 1, 1, none⟩ = some (.int .i64 wn) ∧ W.cell? ⟨w.heap.size + 1 + 1, 1, none⟩ = some (.int .i64 gn) ∧ W.cell? ⟨w.heap.size + 1 + 1, 2, none⟩ = some (.slice A2 gd.length c2)))
  have hr2 := Aside0.mk (fun (W : World) (hW : Below w1.heap.size w1 W) => (⟨(blk_cell (blk_below q1 hW) 0).trans rfl, (blk_cell (blk_below q1 hW) 2).trans rfl, (blk_cell (blk_below q2 hW) 0).trans rfl⟩ : W.cell? ⟨w.heap.size + 1, 0, none⟩ = some (.int .i64 we) ∧ W.cell? ⟨w.heap.size + 1, 2, none⟩ = some (.slice A1 wd.length c1) ∧ W.cell? ⟨w.heap.size + 1 + 1, 0, none⟩ = some (.int .i64 ge)))
  clear q0 q1 q2
  clear H1 H2 hc1 hc2
  have e6 : (k == 6) = false := beq_eq_false_iff_ne.mpr (by have := hk.out; omega)
  have e7 : (k == 7) = false := beq_eq_false_iff_ne.mpr (by have := hk.out; omega)
  have e8 : (k == 8) = false := beq_eq_false_iff_ne.mpr (by have := hk.out; omega)
  have e9 : (k == 9) = true := beq_iff_eq.mpr hk.out
  clear hk
  go_wp2
  go_returns
  exact ⟨rfl, hb.out⟩

set_option maxHeartbeats 8000000 in
set_option maxRecDepth 100000 in
theorem rfits_w_9_data (k p n a : Int) (A : Option Addr) (l c : Nat) (we wn : Int) (A1 : Option Addr) (c1 : Nat) (wd : List Int) (ge gn : Int) (A2 : Option Addr) (c2 : Nat) (gd : List Int) (r : Bool) (w : World) (h1 : Kd.C (Kd.int .u8) w A1 wd.length wd) (hc1 : wd.length ≤ c1) (h2 : Kd.C (Kd.int .u8) w A2 gd.length gd) (hc2 : gd.length ≤ c2)
    (hw : (we == 0) = false) (hk : k = 9) (h3 : (we == ge) = true) (h4 : ((strOfNums wd).toList == (strOfNums gd).toList) = false) :
    Calls Try.prog 9 #[.agg #[.int .i64 k, .int .i64 p, .int .i64 n, .int .u64 a, .slice A l c], .agg #[.int .i64 we, .int .i64 wn, .slice A1 wd.length c1], .agg #[.int .i64 ge, .int .i64 gn, .slice A2 gd.length c2]] w fun e w' => e = .returned (.bool false) ∧ Below w.heap.size w w' := by
  have hb := below_alloc (below_alloc (below_alloc (Below.refl _ w) (C25 k p n a A l c)) (C28 we wn A1 wd.length c1)) (C28 ge gn A2 gd.length c2)
  have q0 := blk_alloc (blk_alloc (blk_new w (C25 k p n a A l c)) (C28 we wn A1 wd.length c1)) (C28 ge gn A2 gd.length c2)
  have q1 := blk_alloc (blk_new (w.alloc (C25 k p n a A l c)) (C28 we wn A1 wd.length c1)) (C28 ge gn A2 gd.length c2)
  have q2 := blk_new ((w.alloc (C25 k p n a A l c)).alloc (C28 we wn A1 wd.length c1)) (C28 ge gn A2 gd.length c2)
  rw [World.size_alloc] at q1
  rw [World.size_alloc, World.size_alloc] at q2
  have H1 := Kd.C_below h1 hb
  have H2 := Kd.C_below h2 hb
  unfold C25 C28 at hb q0 q1 q2 H1 H2
  replace hb := Aside0.mk hb
  clear h1 h2
  replace hk := Aside0.mk hk
  go_enter Try.func9, Try.ntmps9
  go_upto_region 1 with fail
  generalize ((w.alloc (.cells #[.int .i64 k, .int .i64 p, .int .i64 n, .int .u64 a, .slice A l c] 25 (0, 0))).alloc (.cells #[.int .i64 we, .int .i64 wn, .slice A1 wd.length c1] 28 (0, 0))).alloc (.cells #[.int .i64 ge, .int .i64 gn, .slice A2 gd.length c2] 28 (0, 0)) = w1 at *
  have k0 : w1.cell? ⟨w.heap.size, 0, none⟩ = some (.int .i64 k) := (blk_cell q0 0).trans rfl
  have y0 : w1.cell? ⟨w.heap.size + 1, 0, none⟩ = some (.int .i64 we) := (blk_cell q1 0).trans rfl
  have y1 : w1.cell? ⟨w.heap.size + 1, 1, none⟩ = some (.int .i64 wn) := (blk_cell q1 1).trans rfl
  have y2 : w1.cell? ⟨w.heap.size + 1, 2, none⟩ = some (.slice A1 wd.length c1) := (blk_cell q1 2).trans rfl
  have z0 : w1.cell? ⟨w.heap.size + 1 + 1, 0, none⟩ = some (.int .i64 ge) := (blk_cell q2 0).trans rfl
  have z1 : w1.cell? ⟨w.heap.size + 1 + 1, 1, none⟩ = some (.int .i64 gn) := (blk_cell q2 1).trans rfl
  have z2 : w1.cell? ⟨w.heap.size + 1 + 1, 2, none⟩ = some (.slice A2 gd.length c2) := (blk_cell q2 2).trans rfl
  have hr1 := Aside0.mk (fun (W : World) (hW : Below w1.heap.size w1 W) => (⟨(blk_cell (blk_below q0 hW) 0).trans rfl, (blk_cell (blk_below q1 hW) 1).trans rfl, (blk_cell (blk_below q2 hW) 1).trans rfl, (blk_cell (blk_below q2 hW) 2).trans rfl⟩ : W.cell? ⟨w.heap.size, 0, none⟩ = some (.int .i64 k) ∧ W.cell? ⟨w.heap.size + 1, 1, none⟩ = some (.int .i64 wn) ∧ W.cell? ⟨w.heap.size + 1 + 1, 1, none⟩ = some (.int .i64 gn) ∧ W.cell? ⟨w.heap.size + 1 + 1, 2, none⟩ = some (.slice A2 gd.length c2)))
  have hr2 := Aside0.mk (fun (W : World) (hW : Below w1.heap.size w1 W) => (⟨(blk_cell (blk_below q1 hW) 0).trans rfl, (blk_cell (blk_below q1 hW) 2).trans rfl, (blk_cell (blk_below q2 hW) 0).trans rfl⟩ : W.cell? ⟨w.heap.size + 1, 0, none⟩ = some (.int .i64 we) ∧ W.cell? ⟨w.heap.size + 1, 2, none⟩ = some (.slice A1 wd.length c1) ∧ W.cell? ⟨w.heap.size + 1 + 1, 0, none⟩ = some (.int .i64 ge)))
  clear q0 q1 q2
  have hs1 := fun (W : World) (hW : Below w1.heap.size w1 W) => Kd.C_string (P := Try.prog) (c := c1) Try.underlying23 Try.underlying5 Try.underlying9 (Kd.C_below H1 hW)
  have hs2 := fun (W : World) (hW : Below w1.heap.size w1 W) => Kd.C_string (P := Try.prog) (c := c2) Try.underlying23 Try.underlying5 Try.underlying9 (Kd.C_below H2 hW)
  clear H1 H2 hc1 hc2
  have e6 : (k == 6) = false := beq_eq_false_iff_ne.mpr (by have := hk.out; omega)
  have e7 : (k == 7) = false := beq_eq_false_iff_ne.mpr (by have := hk.out; omega)
  have e8 : (k == 8) = false := beq_eq_false_iff_ne.mpr (by have := hk.out; omega)
  have e9 : (k == 9) = true := beq_iff_eq.mpr hk.out
  clear hk
  have hs1' := hs1 _ (Below.refl _ _)
  have hs2' := hs2 _ (Below.refl _ _)
  clear hs1 hs2
  go_wp2
  go_returns
  exact ⟨rfl, hb.out⟩

set_option maxHeartbeats 8000000 in
set_option maxRecDepth 100000 in
theorem rfits_w_9_yes (k p n a : Int) (A : Option Addr) (l c : Nat) (we wn : Int) (A1 : Option Addr) (c1 : Nat) (wd : List Int) (ge gn : Int) (A2 : Option Addr) (c2 : Nat) (gd : List Int) (r : Bool) (w : World) (h1 : Kd.C (Kd.int .u8) w A1 wd.length wd) (hc1 : wd.length ≤ c1) (h2 : Kd.C (Kd.int .u8) w A2 gd.length gd) (hc2 : gd.length ≤ c2)
    (hw : (we == 0) = false) (hk : k = 9) (h3 : (we == ge) = true) (h4 : ((strOfNums wd).toList == (strOfNums gd).toList) = true) :
    Calls Try.prog 9 #[.agg #[.int .i64 k, .int .i64 p, .int .i64 n, .int .u64 a, .slice A l c], .agg #[.int .i64 we, .int .i64 wn, .slice A1 wd.length c1], .agg #[.int .i64 ge, .int .i64 gn, .slice A2 gd.length c2]] w fun e w' => e = .returned (.bool true) ∧ Below w.heap.size w w' := by
  have hb := below_alloc (below_alloc (below_alloc (Below.refl _ w) (C25 k p n a A l c)) (C28 we wn A1 wd.length c1)) (C28 ge gn A2 gd.length c2)
  have q0 := blk_alloc (blk_alloc (blk_new w (C25 k p n a A l c)) (C28 we wn A1 wd.length c1)) (C28 ge gn A2 gd.length c2)
  have q1 := blk_alloc (blk_new (w.alloc (C25 k p n a A l c)) (C28 we wn A1 wd.length c1)) (C28 ge gn A2 gd.length c2)
  have q2 := blk_new ((w.alloc (C25 k p n a A l c)).alloc (C28 we wn A1 wd.length c1)) (C28 ge gn A2 gd.length c2)
  rw [World.size_alloc] at q1
  rw [World.size_alloc, World.size_alloc] at q2
  have H1 := Kd.C_below h1 hb
  have H2 := Kd.C_below h2 hb
  unfold C25 C28 at hb q0 q1 q2 H1 H2
  replace hb := Aside0.mk hb
  clear h1 h2
  replace hk := Aside0.mk hk
  go_enter Try.func9, Try.ntmps9
  go_upto_region 1 with fail
  generalize ((w.alloc (.cells #[.int .i64 k, .int .i64 p, .int .i64 n, .int .u64 a, .slice A l c] 25 (0, 0))).alloc (.cells #[.int .i64 we, .int .i64 wn, .slice A1 wd.length c1] 28 (0, 0))).alloc (.cells #[.int .i64 ge, .int .i64 gn, .slice A2 gd.length c2] 28 (0, 0)) = w1 at *
  have k0 : w1.cell? ⟨w.heap.size, 0, none⟩ = some (.int .i64 k) := (blk_cell q0 0).trans rfl
  have y0 : w1.cell? ⟨w.heap.size + 1, 0, none⟩ = some (.int .i64 we) := (blk_cell q1 0).trans rfl
  have y1 : w1.cell? ⟨w.heap.size + 1, 1, none⟩ = some (.int .i64 wn) := (blk_cell q1 1).trans rfl
  have y2 : w1.cell? ⟨w.heap.size + 1, 2, none⟩ = some (.slice A1 wd.length c1) := (blk_cell q1 2).trans rfl
  have z0 : w1.cell? ⟨w.heap.size + 1 + 1, 0, none⟩ = some (.int .i64 ge) := (blk_cell q2 0).trans rfl
  have z1 : w1.cell? ⟨w.heap.size + 1 + 1, 1, none⟩ = some (.int .i64 gn) := (blk_cell q2 1).trans rfl
  have z2 : w1.cell? ⟨w.heap.size + 1 + 1, 2, none⟩ = some (.slice A2 gd.length c2) := (blk_cell q2 2).trans rfl
  have hr1 := Aside0.mk (fun (W : World) (hW : Below w1.heap.size w1 W) => (⟨(blk_cell (blk_below q0 hW) 0).trans rfl, (blk_cell (blk_below q1 hW) 1).trans rfl, (blk_cell (blk_below q2 hW) 1).trans rfl, (blk_cell (blk_below q2 hW) 2).trans rfl⟩ : W.cell? ⟨w.heap.size, 0, none⟩ = some (.int .i64 k) ∧ W.cell? ⟨w.heap.size + 1, 1, none⟩ = some (.int .i64 wn) ∧ W.cell? ⟨w.heap.size + 1 + 1, 1, none⟩ = some (.int .i64 gn) ∧ W.cell? ⟨w.heap.size + 1 + 1, 2, none⟩ = some (.slice A2 gd.length c2)))
  have hr2 := Aside0.mk (fun (W : World) (hW : Below w1.heap.size w1 W) => (⟨(blk_cell (blk_below q1 hW) 0).trans rfl, (blk_cell (blk_below q1 hW) 2).trans rfl, (blk_cell (blk_below q2 hW) 0).trans rfl⟩ : W.cell? ⟨w.heap.size + 1, 0, none⟩ = some (.int .i64 we) ∧ W.cell? ⟨w.heap.size + 1, 2, none⟩ = some (.slice A1 wd.length c1) ∧ W.cell? ⟨w.heap.size + 1 + 1, 0, none⟩ = some (.int .i64 ge)))
  clear q0 q1 q2
  have hs1 := fun (W : World) (hW : Below w1.heap.size w1 W) => Kd.C_string (P := Try.prog) (c := c1) Try.underlying23 Try.underlying5 Try.underlying9 (Kd.C_below H1 hW)
  have hs2 := fun (W : World) (hW : Below w1.heap.size w1 W) => Kd.C_string (P := Try.prog) (c := c2) Try.underlying23 Try.underlying5 Try.underlying9 (Kd.C_below H2 hW)
  clear H1 H2 hc1 hc2
  have e6 : (k == 6) = false := beq_eq_false_iff_ne.mpr (by have := hk.out; omega)
  have e7 : (k == 7) = false := beq_eq_false_iff_ne.mpr (by have := hk.out; omega)
  have e8 : (k == 8) = false := beq_eq_false_iff_ne.mpr (by have := hk.out; omega)
  have e9 : (k == 9) = true := beq_iff_eq.mpr hk.out
  clear hk
  have hs1' := hs1 _ (Below.refl _ _)
  have hs2' := hs2 _ (Below.refl _ _)
  clear hs1 hs2
  go_wp2
  go_returns
  exact ⟨rfl, hb.out⟩

set_option maxHeartbeats 8000000 in
set_option maxRecDepth 100000 in
theorem rfits_w_none_err (k p n a : Int) (A : Option Addr) (l c : Nat) (we wn : Int) (A1 : Option Addr) (c1 : Nat) (wd : List Int) (ge gn : Int) (A2 : Option Addr) (c2 : Nat) (gd : List Int) (r : Bool) (w : World) (h1 : Kd.C (Kd.int .u8) w A1 wd.length wd) (hc1 : wd.length ≤ c1) (h2 : Kd.C (Kd.int .u8) w A2 gd.length gd) (hc2 : gd.length ≤ c2)
    (hw : (we == 0) = false) (hk : k ≠ 6 ∧ k ≠ 7 ∧ k ≠ 8 ∧ k ≠ 9) (h3 : (we == ge) = false) :
    Calls Try.prog 9 #[.agg #[.int .i64 k, .int .i64 p, .int .i64 n, .int .u64 a, .slice A l c], .agg #[.int .i64 we, .int .i64 wn, .slice A1 wd.length c1], .agg #[.int .i64 ge, .int .i64 gn, .slice A2 gd.length c2]] w fun e w' => e = .returned (.bool false) ∧ Below w.heap.size w w' := by
  have hb := below_alloc (below_alloc (below_alloc (Below.refl _ w) (C25 k p n a A l c)) (C28 we wn A1 wd.length c1)) (C28 ge gn A2 gd.length c2)
  have q0 := blk_alloc (blk_alloc (blk_new w (C25 k p n a A l c)) (C28 we wn A1 wd.length c1)) (C28 ge gn A2 gd.length c2)
  have q1 := blk_alloc (blk_new (w.alloc (C25 k p n a A l c)) (C28 we wn A1 wd.length c1)) (C28 ge gn A2 gd.length c2)
  have q2 := blk_new ((w.alloc (C25 k p n a A l c)).alloc (C28 we wn A1 wd.length c1)) (C28 ge gn A2 gd.length c2)
  rw [World.size_alloc] at q1
  rw [World.size_alloc, World.size_alloc] at q2
  have H1 := Kd.C_below h1 hb
  have H2 := Kd.C_below h2 hb
  unfold C25 C28 at hb q0 q1 q2 H1 H2
  replace hb := Aside0.mk hb
  clear h1 h2
  replace hk := Aside0.mk hk
  go_enter Try.func9, Try.ntmps9
  go_upto_region 1 with fail
  generalize ((w.alloc (.cells #[.int .i64 k, .int .i64 p, .int .i64 n, .int .u64 a, .slice A l c] 25 (0, 0))).alloc (.cells #[.int .i64 we, .int .i64 wn, .slice A1 wd.length c1] 28 (0, 0))).alloc (.cells #[.int .i64 ge, .int .i64 gn, .slice A2 gd.length c2] 28 (0, 0)) = w1 at *
  have k0 : w1.cell? ⟨w.heap.size, 0, none⟩ = some (.int .i64 k) := (blk_cell q0 0).trans rfl
  have y0 : w1.cell? ⟨w.heap.size + 1, 0, none⟩ = some (.int .i64 we) := (blk_cell q1 0).trans rfl
  have y1 : w1.cell? ⟨w.heap.size + 1, 1, none⟩ = some (.int .i64 wn) := (blk_cell q1 1).trans rfl
  have y2 : w1.cell? ⟨w.heap.size + 1, 2, none⟩ = some (.slice A1 wd.length c1) := (blk_cell q1 2).trans rfl
  have z0 : w1.cell? ⟨w.heap.size + 1 + 1, 0, none⟩ = some (.int .i64 ge) := (blk_cell q2 0).trans rfl
  have z1 : w1.cell? ⟨w.heap.size + 1 + 1, 1, none⟩ = some (.int .i64 gn) := (blk_cell q2 1).trans rfl
  have z2 : w1.cell? ⟨w.heap.size + 1 + 1, 2, none⟩ = some (.slice A2 gd.length c2) := (blk_cell q2 2).trans rfl
  have hr1 := Aside0.mk (fun (W : World) (hW : Below w1.heap.size w1 W) => (⟨(blk_cell (blk_below q0 hW) 0).trans rfl, (blk_cell (blk_below q1 hW) 1).trans rfl, (blk_cell (blk_below q2 hW) 1).trans rfl, (blk_cell (blk_below q2 hW) 2).trans rfl⟩ : W.cell? ⟨w.heap.size, 0, none⟩ = some (.int .i64 k) ∧ W.cell? ⟨w.heap.size + 1, 1, none⟩ = some (.int .i64 wn) ∧ W.cell? ⟨w.heap.size + 1 + 1, 1, none⟩ = some (.int .i64 gn) ∧ W.cell? ⟨w.heap.size + 1 + 1, 2, none⟩ = some (.slice A2 gd.length c2)))
  have hr2 := Aside0.mk (fun (W : World) (hW : Below w1.heap.size w1 W) => (⟨(blk_cell (blk_below q1 hW) 0).trans rfl, (blk_cell (blk_below q1 hW) 2).trans rfl, (blk_cell (blk_below q2 hW) 0).trans rfl⟩ : W.cell? ⟨w.heap.size + 1, 0, none⟩ = some (.int .i64 we) ∧ W.cell? ⟨w.heap.size + 1, 2, none⟩ = some (.slice A1 wd.length c1) ∧ W.cell? ⟨w.heap.size + 1 + 1, 0, none⟩ = some (.int .i64 ge)))
  clear q0 q1 q2
  clear H1 H2 hc1 hc2
  have e6 : (k == 6) = false := beq_eq_false_iff_ne.mpr (by have := hk.out; omega)
  have e7 : (k == 7) = false := beq_eq_false_iff_ne.mpr (by have := hk.out; omega)
  have e8 : (k == 8) = false := beq_eq_false_iff_ne.mpr (by have := hk.out; omega)
  have e9 : (k == 9) = false := beq_eq_false_iff_ne.mpr (by have := hk.out; omega)
  clear hk
  go_wp2
  go_returns
  exact ⟨rfl, hb.out⟩

set_option maxHeartbeats 8000000 in
set_option maxRecDepth 100000 in
theorem rfits_w_none_data (k p n a : Int) (A : Option Addr) (l c : Nat) (we wn : Int) (A1 : Option Addr) (c1 : Nat) (wd : List Int) (ge gn : Int) (A2 : Option Addr) (c2 : Nat) (gd : List Int) (r : Bool) (w : World) (h1 : Kd.C (Kd.int .u8) w A1 wd.length wd) (hc1 : wd.length ≤ c1) (h2 : Kd.C (Kd.int .u8) w A2 gd.length gd) (hc2 : gd.length ≤ c2)
    (hw : (we == 0) = false) (hk : k ≠ 6 ∧ k ≠ 7 ∧ k ≠ 8 ∧ k ≠ 9) (h3 : (we == ge) = true) (h4 : ((strOfNums wd).toList == (strOfNums gd).toList) = false) :
    Calls Try.prog 9 #[.agg #[.int .i64 k, .int .i64 p, .int .i64 n, .int .u64 a, .slice A l c], .agg #[.int .i64 we, .int .i64 wn, .slice A1 wd.length c1], .agg #[.int .i64 ge, .int .i64 gn, .slice A2 gd.length c2]] w fun e w' => e = .returned (.bool false) ∧ Below w.heap.size w w' := by
  have hb := below_alloc (below_alloc (below_alloc (Below.refl _ w) (C25 k p n a A l c)) (C28 we wn A1 wd.length c1)) (C28 ge gn A2 gd.length c2)
  have q0 := blk_alloc (blk_alloc (blk_new w (C25 k p n a A l c)) (C28 we wn A1 wd.length c1)) (C28 ge gn A2 gd.length c2)
  have q1 := blk_alloc (blk_new (w.alloc (C25 k p n a A l c)) (C28 we wn A1 wd.length c1)) (C28 ge gn A2 gd.length c2)
  have q2 := blk_new ((w.alloc (C25 k p n a A l c)).alloc (C28 we wn A1 wd.length c1)) (C28 ge gn A2 gd.length c2)
  rw [World.size_alloc] at q1
  rw [World.size_alloc, World.size_alloc] at q2
  have H1 := Kd.C_below h1 hb
  have H2 := Kd.C_below h2 hb
  unfold C25 C28 at hb q0 q1 q2 H1 H2
  replace hb := Aside0.mk hb
  clear h1 h2
  replace hk := Aside0.mk hk
  go_enter Try.func9, Try.ntmps9
  go_upto_region 1 with fail
  generalize ((w.alloc (.cells #[.int .i64 k, .int .i64 p, .int .i64 n, .int .u64 a, .slice A l c] 25 (0, 0))).alloc (.cells #[.int .i64 we, .int .i64 wn, .slice A1 wd.length c1] 28 (0, 0))).alloc (.cells #[.int .i64 ge, .int .i64 gn, .slice A2 gd.length c2] 28 (0, 0)) = w1 at *
  have k0 : w1.cell? ⟨w.heap.size, 0, none⟩ = some (.int .i64 k) := (blk_cell q0 0).trans rfl
  have y0 : w1.cell? ⟨w.heap.size + 1, 0, none⟩ = some (.int .i64 we) := (blk_cell q1 0).trans rfl
  have y1 : w1.cell? ⟨w.heap.size + 1, 1, none⟩ = some (.int .i64 wn) := (blk_cell q1 1).trans rfl
  have y2 : w1.cell? ⟨w.heap.size + 1, 2, none⟩ = some (.slice A1 wd.length c1) := (blk_cell q1 2).trans rfl
  have z0 : w1.cell? ⟨w.heap.size + 1 + 1, 0, none⟩ = some (.int .i64 ge) := (blk_cell q2 0).trans rfl
  have z1 : w1.cell? ⟨w.heap.size + 1 + 1, 1, none⟩ = some (.int .i64 gn) := (blk_cell q2 1).trans rfl
  have z2 : w1.cell? ⟨w.heap.size + 1 + 1, 2, none⟩ = some (.slice A2 gd.length c2) := (blk_cell q2 2).trans rfl
  have hr1 := Aside0.mk (fun (W : World) (hW : Below w1.heap.size w1 W) => (⟨(blk_cell (blk_below q0 hW) 0).trans rfl, (blk_cell (blk_below q1 hW) 1).trans rfl, (blk_cell (blk_below q2 hW) 1).trans rfl, (blk_cell (blk_below q2 hW) 2).trans rfl⟩ : W.cell? ⟨w.heap.size, 0, none⟩ = some (.int .i64 k) ∧ W.cell? ⟨w.heap.size + 1, 1, none⟩ = some (.int .i64 wn) ∧ W.cell? ⟨w.heap.size + 1 + 1, 1, none⟩ = some (.int .i64 gn) ∧ W.cell? ⟨w.heap.size + 1 + 1, 2, none⟩ = some (.slice A2 gd.length c2)))
  have hr2 := Aside0.mk (fun (W : World) (hW : Below w1.heap.size w1 W) => (⟨(blk_cell (blk_below q1 hW) 0).trans rfl, (blk_cell (blk_below q1 hW) 2).trans rfl, (blk_cell (blk_below q2 hW) 0).trans rfl⟩ : W.cell? ⟨w.heap.size + 1, 0, none⟩ = some (.int .i64 we) ∧ W.cell? ⟨w.heap.size + 1, 2, none⟩ = some (.slice A1 wd.length c1) ∧ W.cell? ⟨w.heap.size + 1 + 1, 0, none⟩ = some (.int .i64 ge)))
  clear q0 q1 q2
  have hs1 := fun (W : World) (hW : Below w1.heap.size w1 W) => Kd.C_string (P := Try.prog) (c := c1) Try.underlying23 Try.underlying5 Try.underlying9 (Kd.C_below H1 hW)
  have hs2 := fun (W : World) (hW : Below w1.heap.size w1 W) => Kd.C_string (P := Try.prog) (c := c2) Try.underlying23 Try.underlying5 Try.underlying9 (Kd.C_below H2 hW)
  clear H1 H2 hc1 hc2
  have e6 : (k == 6) = false := beq_eq_false_iff_ne.mpr (by have := hk.out; omega)
  have e7 : (k == 7) = false := beq_eq_false_iff_ne.mpr (by have := hk.out; omega)
  have e8 : (k == 8) = false := beq_eq_false_iff_ne.mpr (by have := hk.out; omega)
  have e9 : (k == 9) = false := beq_eq_false_iff_ne.mpr (by have := hk.out; omega)
  clear hk
  have hs1' := hs1 _ (Below.refl _ _)
  have hs2' := hs2 _ (Below.refl _ _)
  clear hs1 hs2
  go_wp2
  go_returns
  exact ⟨rfl, hb.out⟩

set_option maxHeartbeats 8000000 in
set_option maxRecDepth 100000 in
theorem rfits_w_none_n (k p n a : Int) (A : Option Addr) (l c : Nat) (we wn : Int) (A1 : Option Addr) (c1 : Nat) (wd : List Int) (ge gn : Int) (A2 : Option Addr) (c2 : Nat) (gd : List Int) (r : Bool) (w : World) (h1 : Kd.C (Kd.int .u8) w A1 wd.length wd) (hc1 : wd.length ≤ c1) (h2 : Kd.C (Kd.int .u8) w A2 gd.length gd) (hc2 : gd.length ≤ c2)
    (hw : (we == 0) = false) (hk : k ≠ 6 ∧ k ≠ 7 ∧ k ≠ 8 ∧ k ≠ 9) (h3 : (we == ge) = true) (h4 : ((strOfNums wd).toList == (strOfNums gd).toList) = true) (h5 : (wn == gn) = true) :
    Calls Try.prog 9 #[.agg #[.int .i64 k, .int .i64 p, .int .i64 n, .int .u64 a, .slice A l c], .agg #[.int .i64 we, .int .i64 wn, .slice A1 wd.length c1], .agg #[.int .i64 ge, .int .i64 gn, .slice A2 gd.length c2]] w fun e w' => e = .returned (.bool true) ∧ Below w.heap.size w w' := by
  have hb := below_alloc (below_alloc (below_alloc (Below.refl _ w) (C25 k p n a A l c)) (C28 we wn A1 wd.length c1)) (C28 ge gn A2 gd.length c2)
  have q0 := blk_alloc (blk_alloc (blk_new w (C25 k p n a A l c)) (C28 we wn A1 wd.length c1)) (C28 ge gn A2 gd.length c2)
  have q1 := blk_alloc (blk_new (w.alloc (C25 k p n a A l c)) (C28 we wn A1 wd.length c1)) (C28 ge gn A2 gd.length c2)
  have q2 := blk_new ((w.alloc (C25 k p n a A l c)).alloc (C28 we wn A1 wd.length c1)) (C28 ge gn A2 gd.length c2)
  rw [World.size_alloc] at q1
  rw [World.size_alloc, World.size_alloc] at q2
  have H1 := Kd.C_below h1 hb
  have H2 := Kd.C_below h2 hb
  unfold C25 C28 at hb q0 q1 q2 H1 H2
  replace hb := Aside0.mk hb
  clear h1 h2
  replace hk := Aside0.mk hk
  go_enter Try.func9, Try.ntmps9
  go_upto_region 1 with fail
  generalize ((w.alloc (.cells #[.int .i64 k, .int .i64 p, .int .i64 n, .int .u64 a, .slice A l c] 25 (0, 0))).alloc (.cells #[.int .i64 we, .int .i64 wn, .slice A1 wd.length c1] 28 (0, 0))).alloc (.cells #[.int .i64 ge, .int .i64 gn, .slice A2 gd.length c2] 28 (0, 0)) = w1 at *
  have k0 : w1.cell? ⟨w.heap.size, 0, none⟩ = some (.int .i64 k) := (blk_cell q0 0).trans rfl
  have y0 : w1.cell? ⟨w.heap.size + 1, 0, none⟩ = some (.int .i64 we) := (blk_cell q1 0).trans rfl
  have y1 : w1.cell? ⟨w.heap.size + 1, 1, none⟩ = some (.int .i64 wn) := (blk_cell q1 1).trans rfl
  have y2 : w1.cell? ⟨w.heap.size + 1, 2, none⟩ = some (.slice A1 wd.length c1) := (blk_cell q1 2).trans rfl
  have z0 : w1.cell? ⟨w.heap.size + 1 + 1, 0, none⟩ = some (.int .i64 ge) := (blk_cell q2 0).trans rfl
  have z1 : w1.cell? ⟨w.heap.size + 1 + 1, 1, none⟩ = some (.int .i64 gn) := (blk_cell q2 1).trans rfl
  have z2 : w1.cell? ⟨w.heap.size + 1 + 1, 2, none⟩ = some (.slice A2 gd.length c2) := (blk_cell q2 2).trans rfl
  have hr1 := Aside0.mk (fun (W : World) (hW : Below w1.heap.size w1 W) => (⟨(blk_cell (blk_below q0 hW) 0).trans rfl, (blk_cell (blk_below q1 hW) 1).trans rfl, (blk_cell (blk_below q2 hW) 1).trans rfl, (blk_cell (blk_below q2 hW) 2).trans rfl⟩ : W.cell? ⟨w.heap.size, 0, none⟩ = some (.int .i64 k) ∧ W.cell? ⟨w.heap.size + 1, 1, none⟩ = some (.int .i64 wn) ∧ W.cell? ⟨w.heap.size + 1 + 1, 1, none⟩ = some (.int .i64 gn) ∧ W.cell? ⟨w.heap.size + 1 + 1, 2, none⟩ = some (.slice A2 gd.length c2)))
  have hr2 := Aside0.mk (fun (W : World) (hW : Below w1.heap.size w1 W) => (⟨(blk_cell (blk_below q1 hW) 0).trans rfl, (blk_cell (blk_below q1 hW) 2).trans rfl, (blk_cell (blk_below q2 hW) 0).trans rfl⟩ : W.cell? ⟨w.heap.size + 1, 0, none⟩ = some (.int .i64 we) ∧ W.cell? ⟨w.heap.size + 1, 2, none⟩ = some (.slice A1 wd.length c1) ∧ W.cell? ⟨w.heap.size + 1 + 1, 0, none⟩ = some (.int .i64 ge)))
  clear q0 q1 q2
  have hs1 := fun (W : World) (hW : Below w1.heap.size w1 W) => Kd.C_string (P := Try.prog) (c := c1) Try.underlying23 Try.underlying5 Try.underlying9 (Kd.C_below H1 hW)
  have hs2 := fun (W : World) (hW : Below w1.heap.size w1 W) => Kd.C_string (P := Try.prog) (c := c2) Try.underlying23 Try.underlying5 Try.underlying9 (Kd.C_below H2 hW)
  clear H1 H2 hc1 hc2
  have e6 : (k == 6) = false := beq_eq_false_iff_ne.mpr (by have := hk.out; omega)
  have e7 : (k == 7) = false := beq_eq_false_iff_ne.mpr (by have := hk.out; omega)
  have e8 : (k == 8) = false := beq_eq_false_iff_ne.mpr (by have := hk.out; omega)
  have e9 : (k == 9) = false := beq_eq_false_iff_ne.mpr (by have := hk.out; omega)
  clear hk
  have hs1' := hs1 _ (Below.refl _ _)
  have hs2' := hs2 _ (Below.refl _ _)
  clear hs1 hs2
  go_wp2
  go_returns
  exact ⟨rfl, hb.out⟩

set_option maxHeartbeats 8000000 in
set_option maxRecDepth 100000 in
theorem rfits_w_none_m (k p n a : Int) (A : Option Addr) (l c : Nat) (we wn : Int) (A1 : Option Addr) (c1 : Nat) (wd : List Int) (ge gn : Int) (A2 : Option Addr) (c2 : Nat) (gd : List Int) (r : Bool) (w : World) (h1 : Kd.C (Kd.int .u8) w A1 wd.length wd) (hc1 : wd.length ≤ c1) (h2 : Kd.C (Kd.int .u8) w A2 gd.length gd) (hc2 : gd.length ≤ c2)
    (hw : (we == 0) = false) (hk : k ≠ 6 ∧ k ≠ 7 ∧ k ≠ 8 ∧ k ≠ 9) (h3 : (we == ge) = true) (h4 : ((strOfNums wd).toList == (strOfNums gd).toList) = true) (h5 : (wn == gn) = false) :
    Calls Try.prog 9 #[.agg #[.int .i64 k, .int .i64 p, .int .i64 n, .int .u64 a, .slice A l c], .agg #[.int .i64 we, .int .i64 wn, .slice A1 wd.length c1], .agg #[.int .i64 ge, .int .i64 gn, .slice A2 gd.length c2]] w fun e w' => e = .returned (.bool false) ∧ Below w.heap.size w w' := by
  have hb := below_alloc (below_alloc (below_alloc (Below.refl _ w) (C25 k p n a A l c)) (C28 we wn A1 wd.length c1)) (C28 ge gn A2 gd.length c2)
  have q0 := blk_alloc (blk_alloc (blk_new w (C25 k p n a A l c)) (C28 we wn A1 wd.length c1)) (C28 ge gn A2 gd.length c2)
  have q1 := blk_alloc (blk_new (w.alloc (C25 k p n a A l c)) (C28 we wn A1 wd.length c1)) (C28 ge gn A2 gd.length c2)
  have q2 := blk_new ((w.alloc (C25 k p n a A l c)).alloc (C28 we wn A1 wd.length c1)) (C28 ge gn A2 gd.length c2)
  rw [World.size_alloc] at q1
  rw [World.size_alloc, World.size_alloc] at q2
  have H1 := Kd.C_below h1 hb
  have H2 := Kd.C_below h2 hb
  unfold C25 C28 at hb q0 q1 q2 H1 H2
  replace hb := Aside0.mk hb
  clear h1 h2
  replace hk := Aside0.mk hk
  go_enter Try.func9, Try.ntmps9
  go_upto_region 1 with fail
  generalize ((w.alloc (.cells #[.int .i64 k, .int .i64 p, .int .i64 n, .int .u64 a, .slice A l c] 25 (0, 0))).alloc (.cells #[.int .i64 we, .int .i64 wn, .slice A1 wd.length c1] 28 (0, 0))).alloc (.cells #[.int .i64 ge, .int .i64 gn, .slice A2 gd.length c2] 28 (0, 0)) = w1 at *
  have k0 : w1.cell? ⟨w.heap.size, 0, none⟩ = some (.int .i64 k) := (blk_cell q0 0).trans rfl
  have y0 : w1.cell? ⟨w.heap.size + 1, 0, none⟩ = some (.int .i64 we) := (blk_cell q1 0).trans rfl
  have y1 : w1.cell? ⟨w.heap.size + 1, 1, none⟩ = some (.int .i64 wn) := (blk_cell q1 1).trans rfl
  have y2 : w1.cell? ⟨w.heap.size + 1, 2, none⟩ = some (.slice A1 wd.length c1) := (blk_cell q1 2).trans rfl
  have z0 : w1.cell? ⟨w.heap.size + 1 + 1, 0, none⟩ = some (.int .i64 ge) := (blk_cell q2 0).trans rfl
  have z1 : w1.cell? ⟨w.heap.size + 1 + 1, 1, none⟩ = some (.int .i64 gn) := (blk_cell q2 1).trans rfl
  have z2 : w1.cell? ⟨w.heap.size + 1 + 1, 2, none⟩ = some (.slice A2 gd.length c2) := (blk_cell q2 2).trans rfl
  have hr1 := Aside0.mk (fun (W : World) (hW : Below w1.heap.size w1 W) => (⟨(blk_cell (blk_below q0 hW) 0).trans rfl, (blk_cell (blk_below q1 hW) 1).trans rfl, (blk_cell (blk_below q2 hW) 1).trans rfl, (blk_cell (blk_below q2 hW) 2).trans rfl⟩ : W.cell? ⟨w.heap.size, 0, none⟩ = some (.int .i64 k) ∧ W.cell? ⟨w.heap.size + 1, 1, none⟩ = some (.int .i64 wn) ∧ W.cell? ⟨w.heap.size + 1 + 1, 1, none⟩ = some (.int .i64 gn) ∧ W.cell? ⟨w.heap.size + 1 + 1, 2, none⟩ = some (.slice A2 gd.length c2)))
  have hr2 := Aside0.mk (fun (W : World) (hW : Below w1.heap.size w1 W) => (⟨(blk_cell (blk_below q1 hW) 0).trans rfl, (blk_cell (blk_below q1 hW) 2).trans rfl, (blk_cell (blk_below q2 hW) 0).trans rfl⟩ : W.cell? ⟨w.heap.size + 1, 0, none⟩ = some (.int .i64 we) ∧ W.cell? ⟨w.heap.size + 1, 2, none⟩ = some (.slice A1 wd.length c1) ∧ W.cell? ⟨w.heap.size + 1 + 1, 0, none⟩ = some (.int .i64 ge)))
  clear q0 q1 q2
  have hs1 := fun (W : World) (hW : Below w1.heap.size w1 W) => Kd.C_string (P := Try.prog) (c := c1) Try.underlying23 Try.underlying5 Try.underlying9 (Kd.C_below H1 hW)
  have hs2 := fun (W : World) (hW : Below w1.heap.size w1 W) => Kd.C_string (P := Try.prog) (c := c2) Try.underlying23 Try.underlying5 Try.underlying9 (Kd.C_below H2 hW)
  clear H1 H2 hc1 hc2
  have e6 : (k == 6) = false := beq_eq_false_iff_ne.mpr (by have := hk.out; omega)
  have e7 : (k == 7) = false := beq_eq_false_iff_ne.mpr (by have := hk.out; omega)
  have e8 : (k == 8) = false := beq_eq_false_iff_ne.mpr (by have := hk.out; omega)
  have e9 : (k == 9) = false := beq_eq_false_iff_ne.mpr (by have := hk.out; omega)
  clear hk
  have hs1' := hs1 _ (Below.refl _ _)
  have hs2' := hs2 _ (Below.refl _ _)
  clear hs1 hs2
  go_wp2
  go_returns
  exact ⟨rfl, hb.out⟩

set_option maxHeartbeats 8000000 in
set_option maxRecDepth 100000 in
theorem rfits_g_6_err (k p n a : Int) (A : Option Addr) (l c : Nat) (we wn : Int) (A1 : Option Addr) (c1 : Nat) (wd : List Int) (ge gn : Int) (A2 : Option Addr) (c2 : Nat) (gd : List Int) (r : Bool) (w : World) (h1 : Kd.C (Kd.int .u8) w A1 wd.length wd) (hc1 : wd.length ≤ c1) (h2 : Kd.C (Kd.int .u8) w A2 gd.length gd) (hc2 : gd.length ≤ c2)
    (hw : (we == 0) = true) (hg : gunnyref38_Refusal.f ge = some false) (hk : k = 6) (h3 : (we == ge) = false) :
    Calls Try.prog 9 #[.agg #[.int .i64 k, .int .i64 p, .int .i64 n, .int .u64 a, .slice A l c], .agg #[.int .i64 we, .int .i64 wn, .slice A1 wd.length c1], .agg #[.int .i64 ge, .int .i64 gn, .slice A2 gd.length c2]] w fun e w' => e = .returned (.bool false) ∧ Below w.heap.size w w' := by
  have hb := below_alloc (below_alloc (below_alloc (Below.refl _ w) (C25 k p n a A l c)) (C28 we wn A1 wd.length c1)) (C28 ge gn A2 gd.length c2)
  have q0 := blk_alloc (blk_alloc (blk_new w (C25 k p n a A l c)) (C28 we wn A1 wd.length c1)) (C28 ge gn A2 gd.length c2)
  have q1 := blk_alloc (blk_new (w.alloc (C25 k p n a A l c)) (C28 we wn A1 wd.length c1)) (C28 ge gn A2 gd.length c2)
  have q2 := blk_new ((w.alloc (C25 k p n a A l c)).alloc (C28 we wn A1 wd.length c1)) (C28 ge gn A2 gd.length c2)
  rw [World.size_alloc] at q1
  rw [World.size_alloc, World.size_alloc] at q2
  have H1 := Kd.C_below h1 hb
  have H2 := Kd.C_below h2 hb
  unfold C25 C28 at hb q0 q1 q2 H1 H2
  replace hb := Aside0.mk hb
  clear h1 h2
  replace hk := Aside0.mk hk
  go_enter Try.func9, Try.ntmps9
  go_upto_region 1 with fail
  generalize ((w.alloc (.cells #[.int .i64 k, .int .i64 p, .int .i64 n, .int .u64 a, .slice A l c] 25 (0, 0))).alloc (.cells #[.int .i64 we, .int .i64 wn, .slice A1 wd.length c1] 28 (0, 0))).alloc (.cells #[.int .i64 ge, .int .i64 gn, .slice A2 gd.length c2] 28 (0, 0)) = w1 at *
  have k0 : w1.cell? ⟨w.heap.size, 0, none⟩ = some (.int .i64 k) := (blk_cell q0 0).trans rfl
  have y0 : w1.cell? ⟨w.heap.size + 1, 0, none⟩ = some (.int .i64 we) := (blk_cell q1 0).trans rfl
  have y1 : w1.cell? ⟨w.heap.size + 1, 1, none⟩ = some (.int .i64 wn) := (blk_cell q1 1).trans rfl
  have y2 : w1.cell? ⟨w.heap.size + 1, 2, none⟩ = some (.slice A1 wd.length c1) := (blk_cell q1 2).trans rfl
  have z0 : w1.cell? ⟨w.heap.size + 1 + 1, 0, none⟩ = some (.int .i64 ge) := (blk_cell q2 0).trans rfl
  have z1 : w1.cell? ⟨w.heap.size + 1 + 1, 1, none⟩ = some (.int .i64 gn) := (blk_cell q2 1).trans rfl
  have z2 : w1.cell? ⟨w.heap.size + 1 + 1, 2, none⟩ = some (.slice A2 gd.length c2) := (blk_cell q2 2).trans rfl
  have hr1 := Aside0.mk (fun (W : World) (hW : Below w1.heap.size w1 W) => (⟨(blk_cell (blk_below q0 hW) 0).trans rfl, (blk_cell (blk_below q1 hW) 1).trans rfl, (blk_cell (blk_below q2 hW) 1).trans rfl, (blk_cell (blk_below q2 hW) 2).trans rfl⟩ : W.cell? ⟨w.heap.size, 0, none⟩ = some (.int .i64 k) ∧ W.cell? ⟨w.heap.size + 1, 1, none⟩ = some (.int .i64 wn) ∧ W.cell? ⟨w.heap.size + 1 + 1, 1, none⟩ = some (.int .i64 gn) ∧ W.cell? ⟨w.heap.size + 1 + 1, 2, none⟩ = some (.slice A2 gd.length c2)))
  have hr2 := Aside0.mk (fun (W : World) (hW : Below w1.heap.size w1 W) => (⟨(blk_cell (blk_below q1 hW) 0).trans rfl, (blk_cell (blk_below q1 hW) 2).trans rfl, (blk_cell (blk_below q2 hW) 0).trans rfl⟩ : W.cell? ⟨w.heap.size + 1, 0, none⟩ = some (.int .i64 we) ∧ W.cell? ⟨w.heap.size + 1, 2, none⟩ = some (.slice A1 wd.length c1) ∧ W.cell? ⟨w.heap.size + 1 + 1, 0, none⟩ = some (.int .i64 ge)))
  clear q0 q1 q2
  have hC := Aside0.mk (fun W => gunnyref38_Refusal.calls ge false W hg)
  clear H1 H2 hc1 hc2
  have e6 : (k == 6) = true := beq_iff_eq.mpr hk.out
  clear hk
  clear hg
  go_wp2_with (go_at_call 27; refine (hC.out _).mono ?_; rintro e w3 ⟨rfl, hd⟩; obtain ⟨g0, g1, g2, g3⟩ := hr1.out _ hd.below; obtain ⟨g4, g5, g6⟩ := hr2.out _ hd.below; replace hd := Aside0.mk hd.below)
  go_returns
  exact ⟨rfl, hb.out.trans (Below_low hd.out hb.out.size)⟩

set_option maxHeartbeats 8000000 in
set_option maxRecDepth 100000 in
theorem rfits_g_6_data (k p n a : Int) (A : Option Addr) (l c : Nat) (we wn : Int) (A1 : Option Addr) (c1 : Nat) (wd : List Int) (ge gn : Int) (A2 : Option Addr) (c2 : Nat) (gd : List Int) (r : Bool) (w : World) (h1 : Kd.C (Kd.int .u8) w A1 wd.length wd) (hc1 : wd.length ≤ c1) (h2 : Kd.C (Kd.int .u8) w A2 gd.length gd) (hc2 : gd.length ≤ c2)
    (hw : (we == 0) = true) (hg : gunnyref38_Refusal.f ge = some false) (hk : k = 6) (h3 : (we == ge) = true) (h4 : ((strOfNums wd).toList == (strOfNums gd).toList) = false) :
    Calls Try.prog 9 #[.agg #[.int .i64 k, .int .i64 p, .int .i64 n, .int .u64 a, .slice A l c], .agg #[.int .i64 we, .int .i64 wn, .slice A1 wd.length c1], .agg #[.int .i64 ge, .int .i64 gn, .slice A2 gd.length c2]] w fun e w' => e = .returned (.bool false) ∧ Below w.heap.size w w' := by
  have hb := below_alloc (below_alloc (below_alloc (Below.refl _ w) (C25 k p n a A l c)) (C28 we wn A1 wd.length c1)) (C28 ge gn A2 gd.length c2)
  have q0 := blk_alloc (blk_alloc (blk_new w (C25 k p n a A l c)) (C28 we wn A1 wd.length c1)) (C28 ge gn A2 gd.length c2)
  have q1 := blk_alloc (blk_new (w.alloc (C25 k p n a A l c)) (C28 we wn A1 wd.length c1)) (C28 ge gn A2 gd.length c2)
  have q2 := blk_new ((w.alloc (C25 k p n a A l c)).alloc (C28 we wn A1 wd.length c1)) (C28 ge gn A2 gd.length c2)
  rw [World.size_alloc] at q1
  rw [World.size_alloc, World.size_alloc] at q2
  have H1 := Kd.C_below h1 hb
  have H2 := Kd.C_below h2 hb
  unfold C25 C28 at hb q0 q1 q2 H1 H2
  replace hb := Aside0.mk hb
  clear h1 h2
  replace hk := Aside0.mk hk
  go_enter Try.func9, Try.ntmps9
  go_upto_region 1 with fail
  generalize ((w.alloc (.cells #[.int .i64 k, .int .i64 p, .int .i64 n, .int .u64 a, .slice A l c] 25 (0, 0))).alloc (.cells #[.int .i64 we, .int .i64 wn, .slice A1 wd.length c1] 28 (0, 0))).alloc (.cells #[.int .i64 ge, .int .i64 gn, .slice A2 gd.length c2] 28 (0, 0)) = w1 at *
  have k0 : w1.cell? ⟨w.heap.size, 0, none⟩ = some (.int .i64 k) := (blk_cell q0 0).trans rfl
  have y0 : w1.cell? ⟨w.heap.size + 1, 0, none⟩ = some (.int .i64 we) := (blk_cell q1 0).trans rfl
  have y1 : w1.cell? ⟨w.heap.size + 1, 1, none⟩ = some (.int .i64 wn) := (blk_cell q1 1).trans rfl
  have y2 : w1.cell? ⟨w.heap.size + 1, 2, none⟩ = some (.slice A1 wd.length c1) := (blk_cell q1 2).trans rfl
  have z0 : w1.cell? ⟨w.heap.size + 1 + 1, 0, none⟩ = some (.int .i64 ge) := (blk_cell q2 0).trans rfl
  have z1 : w1.cell? ⟨w.heap.size + 1 + 1, 1, none⟩ = some (.int .i64 gn) := (blk_cell q2 1).trans rfl
  have z2 : w1.cell? ⟨w.heap.size + 1 + 1, 2, none⟩ = some (.slice A2 gd.length c2) := (blk_cell q2 2).trans rfl
  have hr1 := Aside0.mk (fun (W : World) (hW : Below w1.heap.size w1 W) => (⟨(blk_cell (blk_below q0 hW) 0).trans rfl, (blk_cell (blk_below q1 hW) 1).trans rfl, (blk_cell (blk_below q2 hW) 1).trans rfl, (blk_cell (blk_below q2 hW) 2).trans rfl⟩ : W.cell? ⟨w.heap.size, 0, none⟩ = some (.int .i64 k) ∧ W.cell? ⟨w.heap.size + 1, 1, none⟩ = some (.int .i64 wn) ∧ W.cell? ⟨w.heap.size + 1 + 1, 1, none⟩ = some (.int .i64 gn) ∧ W.cell? ⟨w.heap.size + 1 + 1, 2, none⟩ = some (.slice A2 gd.length c2)))
  have hr2 := Aside0.mk (fun (W : World) (hW : Below w1.heap.size w1 W) => (⟨(blk_cell (blk_below q1 hW) 0).trans rfl, (blk_cell (blk_below q1 hW) 2).trans rfl, (blk_cell (blk_below q2 hW) 0).trans rfl⟩ : W.cell? ⟨w.heap.size + 1, 0, none⟩ = some (.int .i64 we) ∧ W.cell? ⟨w.heap.size + 1, 2, none⟩ = some (.slice A1 wd.length c1) ∧ W.cell? ⟨w.heap.size + 1 + 1, 0, none⟩ = some (.int .i64 ge)))
  clear q0 q1 q2
  have hC := Aside0.mk (fun W => gunnyref38_Refusal.calls ge false W hg)
  have hs1 := fun (W : World) (hW : Below w1.heap.size w1 W) => Kd.C_string (P := Try.prog) (c := c1) Try.underlying23 Try.underlying5 Try.underlying9 (Kd.C_below H1 hW)
  have hs2 := fun (W : World) (hW : Below w1.heap.size w1 W) => Kd.C_string (P := Try.prog) (c := c2) Try.underlying23 Try.underlying5 Try.underlying9 (Kd.C_below H2 hW)
  clear H1 H2 hc1 hc2
  have e6 : (k == 6) = true := beq_iff_eq.mpr hk.out
  clear hk
  clear hg
  replace hs1 := Aside0.mk hs1
  replace hs2 := Aside0.mk hs2
  go_wp2_with (go_at_call 27; refine (hC.out _).mono ?_; rintro e w3 ⟨rfl, hd⟩; obtain ⟨g0, g1, g2, g3⟩ := hr1.out _ hd.below; obtain ⟨g4, g5, g6⟩ := hr2.out _ hd.below; have hs1' := hs1.out _ hd.below; have hs2' := hs2.out _ hd.below; replace hd := Aside0.mk hd.below)
  go_returns
  exact ⟨rfl, hb.out.trans (Below_low hd.out hb.out.size)⟩

set_option maxHeartbeats 8000000 in
set_option maxRecDepth 100000 in
theorem rfits_g_6_yes (k p n a : Int) (A : Option Addr) (l c : Nat) (we wn : Int) (A1 : Option Addr) (c1 : Nat) (wd : List Int) (ge gn : Int) (A2 : Option Addr) (c2 : Nat) (gd : List Int) (r : Bool) (w : World) (h1 : Kd.C (Kd.int .u8) w A1 wd.length wd) (hc1 : wd.length ≤ c1) (h2 : Kd.C (Kd.int .u8) w A2 gd.length gd) (hc2 : gd.length ≤ c2)
    (hw : (we == 0) = true) (hg : gunnyref38_Refusal.f ge = some false) (hk : k = 6) (h3 : (we == ge) = true) (h4 : ((strOfNums wd).toList == (strOfNums gd).toList) = true) :
    Calls Try.prog 9 #[.agg #[.int .i64 k, .int .i64 p, .int .i64 n, .int .u64 a, .slice A l c], .agg #[.int .i64 we, .int .i64 wn, .slice A1 wd.length c1], .agg #[.int .i64 ge, .int .i64 gn, .slice A2 gd.length c2]] w fun e w' => e = .returned (.bool true) ∧ Below w.heap.size w w' := by
  have hb := below_alloc (below_alloc (below_alloc (Below.refl _ w) (C25 k p n a A l c)) (C28 we wn A1 wd.length c1)) (C28 ge gn A2 gd.length c2)
  have q0 := blk_alloc (blk_alloc (blk_new w (C25 k p n a A l c)) (C28 we wn A1 wd.length c1)) (C28 ge gn A2 gd.length c2)
  have q1 := blk_alloc (blk_new (w.alloc (C25 k p n a A l c)) (C28 we wn A1 wd.length c1)) (C28 ge gn A2 gd.length c2)
  have q2 := blk_new ((w.alloc (C25 k p n a A l c)).alloc (C28 we wn A1 wd.length c1)) (C28 ge gn A2 gd.length c2)
  rw [World.size_alloc] at q1
  rw [World.size_alloc, World.size_alloc] at q2
  have H1 := Kd.C_below h1 hb
  have H2 := Kd.C_below h2 hb
  unfold C25 C28 at hb q0 q1 q2 H1 H2
  replace hb := Aside0.mk hb
  clear h1 h2
  replace hk := Aside0.mk hk
  go_enter Try.func9, Try.ntmps9
  go_upto_region 1 with fail
  generalize ((w.alloc (.cells #[.int .i64 k, .int .i64 p, .int .i64 n, .int .u64 a, .slice A l c] 25 (0, 0))).alloc (.cells #[.int .i64 we, .int .i64 wn, .slice A1 wd.length c1] 28 (0, 0))).alloc (.cells #[.int .i64 ge, .int .i64 gn, .slice A2 gd.length c2] 28 (0, 0)) = w1 at *
  have k0 : w1.cell? ⟨w.heap.size, 0, none⟩ = some (.int .i64 k) := (blk_cell q0 0).trans rfl
  have y0 : w1.cell? ⟨w.heap.size + 1, 0, none⟩ = some (.int .i64 we) := (blk_cell q1 0).trans rfl
  have y1 : w1.cell? ⟨w.heap.size + 1, 1, none⟩ = some (.int .i64 wn) := (blk_cell q1 1).trans rfl
  have y2 : w1.cell? ⟨w.heap.size + 1, 2, none⟩ = some (.slice A1 wd.length c1) := (blk_cell q1 2).trans rfl
  have z0 : w1.cell? ⟨w.heap.size + 1 + 1, 0, none⟩ = some (.int .i64 ge) := (blk_cell q2 0).trans rfl
  have z1 : w1.cell? ⟨w.heap.size + 1 + 1, 1, none⟩ = some (.int .i64 gn) := (blk_cell q2 1).trans rfl
  have z2 : w1.cell? ⟨w.heap.size + 1 + 1, 2, none⟩ = some (.slice A2 gd.length c2) := (blk_cell q2 2).trans rfl
  have hr1 := Aside0.mk (fun (W : World) (hW : Below w1.heap.size w1 W) => (⟨(blk_cell (blk_below q0 hW) 0).trans rfl, (blk_cell (blk_below q1 hW) 1).trans rfl, (blk_cell (blk_below q2 hW) 1).trans rfl, (blk_cell (blk_below q2 hW) 2).trans rfl⟩ : W.cell? ⟨w.heap.size, 0, none⟩ = some (.int .i64 k) ∧ W.cell? ⟨w.heap.size + 1, 1, none⟩ = some (.int .i64 wn) ∧ W.cell? ⟨w.heap.size + 1 + 1, 1, none⟩ = some (.int .i64 gn) ∧ W.cell? ⟨w.heap.size + 1 + 1, 2, none⟩ = some (.slice A2 gd.length c2)))
  have hr2 := Aside0.mk (fun (W : World) (hW : Below w1.heap.size w1 W) => (⟨(blk_cell (blk_below q1 hW) 0).trans rfl, (blk_cell (blk_below q1 hW) 2).trans rfl, (blk_cell (blk_below q2 hW) 0).trans rfl⟩ : W.cell? ⟨w.heap.size + 1, 0, none⟩ = some (.int .i64 we) ∧ W.cell? ⟨w.heap.size + 1, 2, none⟩ = some (.slice A1 wd.length c1) ∧ W.cell? ⟨w.heap.size + 1 + 1, 0, none⟩ = some (.int .i64 ge)))
  clear q0 q1 q2
  have hC := Aside0.mk (fun W => gunnyref38_Refusal.calls ge false W hg)
  have hs1 := fun (W : World) (hW : Below w1.heap.size w1 W) => Kd.C_string (P := Try.prog) (c := c1) Try.underlying23 Try.underlying5 Try.underlying9 (Kd.C_below H1 hW)
  have hs2 := fun (W : World) (hW : Below w1.heap.size w1 W) => Kd.C_string (P := Try.prog) (c := c2) Try.underlying23 Try.underlying5 Try.underlying9 (Kd.C_below H2 hW)
  clear H1 H2 hc1 hc2
  have e6 : (k == 6) = true := beq_iff_eq.mpr hk.out
  clear hk
  clear hg
  replace hs1 := Aside0.mk hs1
  replace hs2 := Aside0.mk hs2
  go_wp2_with (go_at_call 27; refine (hC.out _).mono ?_; rintro e w3 ⟨rfl, hd⟩; obtain ⟨g0, g1, g2, g3⟩ := hr1.out _ hd.below; obtain ⟨g4, g5, g6⟩ := hr2.out _ hd.below; have hs1' := hs1.out _ hd.below; have hs2' := hs2.out _ hd.below; replace hd := Aside0.mk hd.below)
  go_returns
  exact ⟨rfl, hb.out.trans (Below_low hd.out hb.out.size)⟩

set_option maxHeartbeats 8000000 in
set_option maxRecDepth 100000 in
theorem rfits_g_7_err (k p n a : Int) (A : Option Addr) (l c : Nat) (we wn : Int) (A1 : Option Addr) (c1 : Nat) (wd : List Int) (ge gn : Int) (A2 : Option Addr) (c2 : Nat) (gd : List Int) (r : Bool) (w : World) (h1 : Kd.C (Kd.int .u8) w A1 wd.length wd) (hc1 : wd.length ≤ c1) (h2 : Kd.C (Kd.int .u8) w A2 gd.length gd) (hc2 : gd.length ≤ c2)
    (hw : (we == 0) = true) (hg : gunnyref38_Refusal.f ge = some false) (hk : k = 7) (h3 : (we == ge) = false) :
    Calls Try.prog 9 #[.agg #[.int .i64 k, .int .i64 p, .int .i64 n, .int .u64 a, .slice A l c], .agg #[.int .i64 we, .int .i64 wn, .slice A1 wd.length c1], .agg #[.int .i64 ge, .int .i64 gn, .slice A2 gd.length c2]] w fun e w' => e = .returned (.bool false) ∧ Below w.heap.size w w' := by
  have hb := below_alloc (below_alloc (below_alloc (Below.refl _ w) (C25 k p n a A l c)) (C28 we wn A1 wd.length c1)) (C28 ge gn A2 gd.length c2)
  have q0 := blk_alloc (blk_alloc (blk_new w (C25 k p n a A l c)) (C28 we wn A1 wd.length c1)) (C28 ge gn A2 gd.length c2)
  have q1 := blk_alloc (blk_new (w.alloc (C25 k p n a A l c)) (C28 we wn A1 wd.length c1)) (C28 ge gn A2 gd.length c2)
  have q2 := blk_new ((w.alloc (C25 k p n a A l c)).alloc (C28 we wn A1 wd.length c1)) (C28 ge gn A2 gd.length c2)
  rw [World.size_alloc] at q1
  rw [World.size_alloc, World.size_alloc] at q2
  have H1 := Kd.C_below h1 hb
  have H2 := Kd.C_below h2 hb
  unfold C25 C28 at hb q0 q1 q2 H1 H2
  replace hb := Aside0.mk hb
  clear h1 h2
  replace hk := Aside0.mk hk
  go_enter Try.func9, Try.ntmps9
  go_upto_region 1 with fail
  generalize ((w.alloc (.cells #[.int .i64 k, .int .i64 p, .int .i64 n, .int .u64 a, .slice A l c] 25 (0, 0))).alloc (.cells #[.int .i64 we, .int .i64 wn, .slice A1 wd.length c1] 28 (0, 0))).alloc (.cells #[.int .i64 ge, .int .i64 gn, .slice A2 gd.length c2] 28 (0, 0)) = w1 at *
  have k0 : w1.cell? ⟨w.heap.size, 0, none⟩ = some (.int .i64 k) := (blk_cell q0 0).trans rfl
  have y0 : w1.cell? ⟨w.heap.size + 1, 0, none⟩ = some (.int .i64 we) := (blk_cell q1 0).trans rfl
  have y1 : w1.cell? ⟨w.heap.size + 1, 1, none⟩ = some (.int .i64 wn) := (blk_cell q1 1).trans rfl
  have y2 : w1.cell? ⟨w.heap.size + 1, 2, none⟩ = some (.slice A1 wd.length c1) := (blk_cell q1 2).trans rfl
  have z0 : w1.cell? ⟨w.heap.size + 1 + 1, 0, none⟩ = some (.int .i64 ge) := (blk_cell q2 0).trans rfl
  have z1 : w1.cell? ⟨w.heap.size + 1 + 1, 1, none⟩ = some (.int .i64 gn) := (blk_cell q2 1).trans rfl
  have z2 : w1.cell? ⟨w.heap.size + 1 + 1, 2, none⟩ = some (.slice A2 gd.length c2) := (blk_cell q2 2).trans rfl
  have hr1 := Aside0.mk (fun (W : World) (hW : Below w1.heap.size w1 W) => (⟨(blk_cell (blk_below q0 hW) 0).trans rfl, (blk_cell (blk_below q1 hW) 1).trans rfl, (blk_cell (blk_below q2 hW) 1).trans rfl, (blk_cell (blk_below q2 hW) 2).trans rfl⟩ : W.cell? ⟨w.heap.size, 0, none⟩ = some (.int .i64 k) ∧ W.cell? ⟨w.heap.size + 1, 1, none⟩ = some (.int .i64 wn) ∧ W.cell? ⟨w.heap.size + 1 + 1, 1, none⟩ = some (.int .i64 gn) ∧ W.cell? ⟨w.heap.size + 1 + 1, 2, none⟩ = some (.slice A2 gd.length c2)))
  have hr2 := Aside0.mk (fun (W : World) (hW : Below w1.heap.size w1 W) => (⟨(blk_cell (blk_below q1 hW) 0).trans rfl, (blk_cell (blk_below q1 hW) 2).trans rfl, (blk_cell (blk_below q2 hW) 0).trans rfl⟩ : W.cell? ⟨w.heap.size + 1, 0, none⟩ = some (.int .i64 we) ∧ W.cell? ⟨w.heap.size + 1, 2, none⟩ = some (.slice A1 wd.length c1) ∧ W.cell? ⟨w.heap.size + 1 + 1, 0, none⟩ = some (.int .i64 ge)))
  clear q0 q1 q2
  have hC := Aside0.mk (fun W => gunnyref38_Refusal.calls ge false W hg)
  clear H1 H2 hc1 hc2
  have e6 : (k == 6) = false := beq_eq_false_iff_ne.mpr (by have := hk.out; omega)
  have e7 : (k == 7) = true := beq_iff_eq.mpr hk.out
  clear hk
  clear hg
  go_wp2_with (go_at_call 27; refine (hC.out _).mono ?_; rintro e w3 ⟨rfl, hd⟩; obtain ⟨g0, g1, g2, g3⟩ := hr1.out _ hd.below; obtain ⟨g4, g5, g6⟩ := hr2.out _ hd.below; replace hd := Aside0.mk hd.below)
  go_returns
  exact ⟨rfl, hb.out.trans (Below_low hd.out hb.out.size)⟩

set_option maxHeartbeats 8000000 in
set_option maxRecDepth 100000 in
theorem rfits_g_7_data (k p n a : Int) (A : Option Addr) (l c : Nat) (we wn : Int) (A1 : Option Addr) (c1 : Nat) (wd : List Int) (ge gn : Int) (A2 : Option Addr) (c2 : Nat) (gd : List Int) (r : Bool) (w : World) (h1 : Kd.C (Kd.int .u8) w A1 wd.length wd) (hc1 : wd.length ≤ c1) (h2 : Kd.C (Kd.int .u8) w A2 gd.length gd) (hc2 : gd.length ≤ c2)
    (hw : (we == 0) = true) (hg : gunnyref38_Refusal.f ge = some false) (hk : k = 7) (h3 : (we == ge) = true) (h4 : ((strOfNums wd).toList == (strOfNums gd).toList) = false) :
    Calls Try.prog 9 #[.agg #[.int .i64 k, .int .i64 p, .int .i64 n, .int .u64 a, .slice A l c], .agg #[.int .i64 we, .int .i64 wn, .slice A1 wd.length c1], .agg #[.int .i64 ge, .int .i64 gn, .slice A2 gd.length c2]] w fun e w' => e = .returned (.bool false) ∧ Below w.heap.size w w' := by
  have hb := below_alloc (below_alloc (below_alloc (Below.refl _ w) (C25 k p n a A l c)) (C28 we wn A1 wd.length c1)) (C28 ge gn A2 gd.length c2)
  have q0 := blk_alloc (blk_alloc (blk_new w (C25 k p n a A l c)) (C28 we wn A1 wd.length c1)) (C28 ge gn A2 gd.length c2)
  have q1 := blk_alloc (blk_new (w.alloc (C25 k p n a A l c)) (C28 we wn A1 wd.length c1)) (C28 ge gn A2 gd.length c2)
  have q2 := blk_new ((w.alloc (C25 k p n a A l c)).alloc (C28 we wn A1 wd.length c1)) (C28 ge gn A2 gd.length c2)
  rw [World.size_alloc] at q1
  rw [World.size_alloc, World.size_alloc] at q2
  have H1 := Kd.C_below h1 hb
  have H2 := Kd.C_below h2 hb
  unfold C25 C28 at hb q0 q1 q2 H1 H2
  replace hb := Aside0.mk hb
  clear h1 h2
  replace hk := Aside0.mk hk
  go_enter Try.func9, Try.ntmps9
  go_upto_region 1 with fail
  generalize ((w.alloc (.cells #[.int .i64 k, .int .i64 p, .int .i64 n, .int .u64 a, .slice A l c] 25 (0, 0))).alloc (.cells #[.int .i64 we, .int .i64 wn, .slice A1 wd.length c1] 28 (0, 0))).alloc (.cells #[.int .i64 ge, .int .i64 gn, .slice A2 gd.length c2] 28 (0, 0)) = w1 at *
  have k0 : w1.cell? ⟨w.heap.size, 0, none⟩ = some (.int .i64 k) := (blk_cell q0 0).trans rfl
  have y0 : w1.cell? ⟨w.heap.size + 1, 0, none⟩ = some (.int .i64 we) := (blk_cell q1 0).trans rfl
  have y1 : w1.cell? ⟨w.heap.size + 1, 1, none⟩ = some (.int .i64 wn) := (blk_cell q1 1).trans rfl
  have y2 : w1.cell? ⟨w.heap.size + 1, 2, none⟩ = some (.slice A1 wd.length c1) := (blk_cell q1 2).trans rfl
  have z0 : w1.cell? ⟨w.heap.size + 1 + 1, 0, none⟩ = some (.int .i64 ge) := (blk_cell q2 0).trans rfl
  have z1 : w1.cell? ⟨w.heap.size + 1 + 1, 1, none⟩ = some (.int .i64 gn) := (blk_cell q2 1).trans rfl
  have z2 : w1.cell? ⟨w.heap.size + 1 + 1, 2, none⟩ = some (.slice A2 gd.length c2) := (blk_cell q2 2).trans rfl
  have hr1 := Aside0.mk (fun (W : World) (hW : Below w1.heap.size w1 W) => (⟨(blk_cell (blk_below q0 hW) 0).trans rfl, (blk_cell (blk_below q1 hW) 1).trans rfl, (blk_cell (blk_below q2 hW) 1).trans rfl, (blk_cell (blk_below q2 hW) 2).trans rfl⟩ : W.cell? ⟨w.heap.size, 0, none⟩ = some (.int .i64 k) ∧ W.cell? ⟨w.heap.size + 1, 1, none⟩ = some (.int .i64 wn) ∧ W.cell? ⟨w.heap.size + 1 + 1, 1, none⟩ = some (.int .i64 gn) ∧ W.cell? ⟨w.heap.size + 1 + 1, 2, none⟩ = some (.slice A2 gd.length c2)))
  have hr2 := Aside0.mk (fun (W : World) (hW : Below w1.heap.size w1 W) => (⟨(blk_cell (blk_below q1 hW) 0).trans rfl, (blk_cell (blk_below q1 hW) 2).trans rfl, (blk_cell (blk_below q2 hW) 0).trans rfl⟩ : W.cell? ⟨w.heap.size + 1, 0, none⟩ = some (.int .i64 we) ∧ W.cell? ⟨w.heap.size + 1, 2, none⟩ = some (.slice A1 wd.length c1) ∧ W.cell? ⟨w.heap.size + 1 + 1, 0, none⟩ = some (.int .i64 ge)))
  clear q0 q1 q2
  have hC := Aside0.mk (fun W => gunnyref38_Refusal.calls ge false W hg)
  have hs1 := fun (W : World) (hW : Below w1.heap.size w1 W) => Kd.C_string (P := Try.prog) (c := c1) Try.underlying23 Try.underlying5 Try.underlying9 (Kd.C_below H1 hW)
  have hs2 := fun (W : World) (hW : Below w1.heap.size w1 W) => Kd.C_string (P := Try.prog) (c := c2) Try.underlying23 Try.underlying5 Try.underlying9 (Kd.C_below H2 hW)
  clear H1 H2 hc1 hc2
  have e6 : (k == 6) = false := beq_eq_false_iff_ne.mpr (by have := hk.out; omega)
  have e7 : (k == 7) = true := beq_iff_eq.mpr hk.out
  clear hk
  clear hg
  replace hs1 := Aside0.mk hs1
  replace hs2 := Aside0.mk hs2
  go_wp2_with (go_at_call 27; refine (hC.out _).mono ?_; rintro e w3 ⟨rfl, hd⟩; obtain ⟨g0, g1, g2, g3⟩ := hr1.out _ hd.below; obtain ⟨g4, g5, g6⟩ := hr2.out _ hd.below; have hs1' := hs1.out _ hd.below; have hs2' := hs2.out _ hd.below; replace hd := Aside0.mk hd.below)
  go_returns
  exact ⟨rfl, hb.out.trans (Below_low hd.out hb.out.size)⟩

set_option maxHeartbeats 8000000 in
set_option maxRecDepth 100000 in
theorem rfits_g_7_yes (k p n a : Int) (A : Option Addr) (l c : Nat) (we wn : Int) (A1 : Option Addr) (c1 : Nat) (wd : List Int) (ge gn : Int) (A2 : Option Addr) (c2 : Nat) (gd : List Int) (r : Bool) (w : World) (h1 : Kd.C (Kd.int .u8) w A1 wd.length wd) (hc1 : wd.length ≤ c1) (h2 : Kd.C (Kd.int .u8) w A2 gd.length gd) (hc2 : gd.length ≤ c2)
    (hw : (we == 0) = true) (hg : gunnyref38_Refusal.f ge = some false) (hk : k = 7) (h3 : (we == ge) = true) (h4 : ((strOfNums wd).toList == (strOfNums gd).toList) = true) :
    Calls Try.prog 9 #[.agg #[.int .i64 k, .int .i64 p, .int .i64 n, .int .u64 a, .slice A l c], .agg #[.int .i64 we, .int .i64 wn, .slice A1 wd.length c1], .agg #[.int .i64 ge, .int .i64 gn, .slice A2 gd.length c2]] w fun e w' => e = .returned (.bool true) ∧ Below w.heap.size w w' := by
  have hb := below_alloc (below_alloc (below_alloc (Below.refl _ w) (C25 k p n a A l c)) (C28 we wn A1 wd.length c1)) (C28 ge gn A2 gd.length c2)
  have q0 := blk_alloc (blk_alloc (blk_new w (C25 k p n a A l c)) (C28 we wn A1 wd.length c1)) (C28 ge gn A2 gd.length c2)
  have q1 := blk_alloc (blk_new (w.alloc (C25 k p n a A l c)) (C28 we wn A1 wd.length c1)) (C28 ge gn A2 gd.length c2)
  have q2 := blk_new ((w.alloc (C25 k p n a A l c)).alloc (C28 we wn A1 wd.length c1)) (C28 ge gn A2 gd.length c2)
  rw [World.size_alloc] at q1
  rw [World.size_alloc, World.size_alloc] at q2
  have H1 := Kd.C_below h1 hb
  have H2 := Kd.C_below h2 hb
  unfold C25 C28 at hb q0 q1 q2 H1 H2
  replace hb := Aside0.mk hb
  clear h1 h2
  replace hk := Aside0.mk hk
  go_enter Try.func9, Try.ntmps9
  go_upto_region 1 with fail
  generalize ((w.alloc (.cells #[.int .i64 k, .int .i64 p, .int .i64 n, .int .u64 a, .slice A l c] 25 (0, 0))).alloc (.cells #[.int .i64 we, .int .i64 wn, .slice A1 wd.length c1] 28 (0, 0))).alloc (.cells #[.int .i64 ge, .int .i64 gn, .slice A2 gd.length c2] 28 (0, 0)) = w1 at *
  have k0 : w1.cell? ⟨w.heap.size, 0, none⟩ = some (.int .i64 k) := (blk_cell q0 0).trans rfl
  have y0 : w1.cell? ⟨w.heap.size + 1, 0, none⟩ = some (.int .i64 we) := (blk_cell q1 0).trans rfl
  have y1 : w1.cell? ⟨w.heap.size + 1, 1, none⟩ = some (.int .i64 wn) := (blk_cell q1 1).trans rfl
  have y2 : w1.cell? ⟨w.heap.size + 1, 2, none⟩ = some (.slice A1 wd.length c1) := (blk_cell q1 2).trans rfl
  have z0 : w1.cell? ⟨w.heap.size + 1 + 1, 0, none⟩ = some (.int .i64 ge) := (blk_cell q2 0).trans rfl
  have z1 : w1.cell? ⟨w.heap.size + 1 + 1, 1, none⟩ = some (.int .i64 gn) := (blk_cell q2 1).trans rfl
  have z2 : w1.cell? ⟨w.heap.size + 1 + 1, 2, none⟩ = some (.slice A2 gd.length c2) := (blk_cell q2 2).trans rfl
  have hr1 := Aside0.mk (fun (W : World) (hW : Below w1.heap.size w1 W) => (⟨(blk_cell (blk_below q0 hW) 0).trans rfl, (blk_cell (blk_below q1 hW) 1).trans rfl, (blk_cell (blk_below q2 hW) 1).trans rfl, (blk_cell (blk_below q2 hW) 2).trans rfl⟩ : W.cell? ⟨w.heap.size, 0, none⟩ = some (.int .i64 k) ∧ W.cell? ⟨w.heap.size + 1, 1, none⟩ = some (.int .i64 wn) ∧ W.cell? ⟨w.heap.size + 1 + 1, 1, none⟩ = some (.int .i64 gn) ∧ W.cell? ⟨w.heap.size + 1 + 1, 2, none⟩ = some (.slice A2 gd.length c2)))
  have hr2 := Aside0.mk (fun (W : World) (hW : Below w1.heap.size w1 W) => (⟨(blk_cell (blk_below q1 hW) 0).trans rfl, (blk_cell (blk_below q1 hW) 2).trans rfl, (blk_cell (blk_below q2 hW) 0).trans rfl⟩ : W.cell? ⟨w.heap.size + 1, 0, none⟩ = some (.int .i64 we) ∧ W.cell? ⟨w.heap.size + 1, 2, none⟩ = some (.slice A1 wd.length c1) ∧ W.cell? ⟨w.heap.size + 1 + 1, 0, none⟩ = some (.int .i64 ge)))
  clear q0 q1 q2
  have hC := Aside0.mk (fun W => gunnyref38_Refusal.calls ge false W hg)
  have hs1 := fun (W : World) (hW : Below w1.heap.size w1 W) => Kd.C_string (P := Try.prog) (c := c1) Try.underlying23 Try.underlying5 Try.underlying9 (Kd.C_below H1 hW)
  have hs2 := fun (W : World) (hW : Below w1.heap.size w1 W) => Kd.C_string (P := Try.prog) (c := c2) Try.underlying23 Try.underlying5 Try.underlying9 (Kd.C_below H2 hW)
  clear H1 H2 hc1 hc2
  have e6 : (k == 6) = false := beq_eq_false_iff_ne.mpr (by have := hk.out; omega)
  have e7 : (k == 7) = true := beq_iff_eq.mpr hk.out
  clear hk
  clear hg
  replace hs1 := Aside0.mk hs1
  replace hs2 := Aside0.mk hs2
  go_wp2_with (go_at_call 27; refine (hC.out _).mono ?_; rintro e w3 ⟨rfl, hd⟩; obtain ⟨g0, g1, g2, g3⟩ := hr1.out _ hd.below; obtain ⟨g4, g5, g6⟩ := hr2.out _ hd.below; have hs1' := hs1.out _ hd.below; have hs2' := hs2.out _ hd.below; replace hd := Aside0.mk hd.below)
  go_returns
  exact ⟨rfl, hb.out.trans (Below_low hd.out hb.out.size)⟩

set_option maxHeartbeats 8000000 in
set_option maxRecDepth 100000 in
theorem rfits_g_8_err (k p n a : Int) (A : Option Addr) (l c : Nat) (we wn : Int) (A1 : Option Addr) (c1 : Nat) (wd : List Int) (ge gn : Int) (A2 : Option Addr) (c2 : Nat) (gd : List Int) (r : Bool) (w : World) (h1 : Kd.C (Kd.int .u8) w A1 wd.length wd) (hc1 : wd.length ≤ c1) (h2 : Kd.C (Kd.int .u8) w A2 gd.length gd) (hc2 : gd.length ≤ c2)
    (hw : (we == 0) = true) (hg : gunnyref38_Refusal.f ge = some false) (hk : k = 8) (h3 : (we == ge) = false) :
    Calls Try.prog 9 #[.agg #[.int .i64 k, .int .i64 p, .int .i64 n, .int .u64 a, .slice A l c], .agg #[.int .i64 we, .int .i64 wn, .slice A1 wd.length c1], .agg #[.int .i64 ge, .int .i64 gn, .slice A2 gd.length c2]] w fun e w' => e = .returned (.bool false) ∧ Below w.heap.size w w' := by
  have hb := below_alloc (below_alloc (below_alloc (Below.refl _ w) (C25 k p n a A l c)) (C28 we wn A1 wd.length c1)) (C28 ge gn A2 gd.length c2)
  have q0 := blk_alloc (blk_alloc (blk_new w (C25 k p n a A l c)) (C28 we wn A1 wd.length c1)) (C28 ge gn A2 gd.length c2)
  have q1 := blk_alloc (blk_new (w.alloc (C25 k p n a A l c)) (C28 we wn A1 wd.length c1)) (C28 ge gn A2 gd.length c2)
  have q2 := blk_new ((w.alloc (C25 k p n a A l c)).alloc (C28 we wn A1 wd.length c1)) (C28 ge gn A2 gd.length c2)
  rw [World.size_alloc] at q1
  rw [World.size_alloc, World.size_alloc] at q2
  have H1 := Kd.C_below h1 hb
  have H2 := Kd.C_below h2 hb
  unfold C25 C28 at hb q0 q1 q2 H1 H2
  replace hb := Aside0.mk hb
  clear h1 h2
  replace hk := Aside0.mk hk
  go_enter Try.func9, Try.ntmps9
  go_upto_region 1 with fail
  generalize ((w.alloc (.cells #[.int .i64 k, .int .i64 p, .int .i64 n, .int .u64 a, .slice A l c] 25 (0, 0))).alloc (.cells #[.int .i64 we, .int .i64 wn, .slice A1 wd.length c1] 28 (0, 0))).alloc (.cells #[.int .i64 ge, .int .i64 gn, .slice A2 gd.length c2] 28 (0, 0)) = w1 at *
  have k0 : w1.cell? ⟨w.heap.size, 0, none⟩ = some (.int .i64 k) := (blk_cell q0 0).trans rfl
  have y0 : w1.cell? ⟨w.heap.size + 1, 0, none⟩ = some (.int .i64 we) := (blk_cell q1 0).trans rfl
  have y1 : w1.cell? ⟨w.heap.size + 1, 1, none⟩ = some (.int .i64 wn) := (blk_cell q1 1).trans rfl
  have y2 : w1.cell? ⟨w.heap.size + 1, 2, none⟩ = some (.slice A1 wd.length c1) := (blk_cell q1 2).trans rfl
  have z0 : w1.cell? ⟨w.heap.size + 1 + 1, 0, none⟩ = some (.int .i64 ge) := (blk_cell q2 0).trans rfl
  have z1 : w1.cell? ⟨w.heap.size + 1 + 1, 1, none⟩ = some (.int .i64 gn) := (blk_cell q2 1).trans rfl
  have z2 : w1.cell? ⟨w.heap.size + 1 + 1, 2, none⟩ = some (.slice A2 gd.length c2) := (blk_cell q2 2).trans rfl
  have hr1 := Aside0.mk (fun (W : World) (hW : Below w1.heap.size w1 W) => (⟨(blk_cell (blk_below q0 hW) 0).trans rfl, (blk_cell (blk_below q1 hW) 1).trans rfl, (blk_cell (blk_below q2 hW) 1).trans rfl, (blk_cell (blk_below q2 hW) 2).trans rfl⟩ : W.cell? ⟨w.heap.size, 0, none⟩ = some (.int .i64 k) ∧ W.cell? ⟨w.heap.size + 1, 1, none⟩ = some (.int .i64 wn) ∧ W.cell? ⟨w.heap.size + 1 + 1, 1, none⟩ = some (.int .i64 gn) ∧ W.cell? ⟨w.heap.size + 1 + 1, 2, none⟩ = some (.slice A2 gd.length c2)))
  have hr2 := Aside0.mk (fun (W : World) (hW : Below w1.heap.size w1 W) => (⟨(blk_cell (blk_below q1 hW) 0).trans rfl, (blk_cell (blk_below q1 hW) 2).trans rfl, (blk_cell (blk_below q2 hW) 0).trans rfl⟩ : W.cell? ⟨w.heap.size + 1, 0, none⟩ = some (.int .i64 we) ∧ W.cell? ⟨w.heap.size + 1, 2, none⟩ = some (.slice A1 wd.length c1) ∧ W.cell? ⟨w.heap.size + 1 + 1, 0, none⟩ = some (.int .i64 ge)))
  clear q0 q1 q2
  have hC := Aside0.mk (fun W => gunnyref38_Refusal.calls ge false W hg)
  clear H1 H2 hc1 hc2
  have e6 : (k == 6) = false := beq_eq_false_iff_ne.mpr (by have := hk.out; omega)
  have e7 : (k == 7) = false := beq_eq_false_iff_ne.mpr (by have := hk.out; omega)
  have e8 : (k == 8) = true := beq_iff_eq.mpr hk.out
  clear hk
  clear hg
  go_wp2_with (go_at_call 27; refine (hC.out _).mono ?_; rintro e w3 ⟨rfl, hd⟩; obtain ⟨g0, g1, g2, g3⟩ := hr1.out _ hd.below; obtain ⟨g4, g5, g6⟩ := hr2.out _ hd.below; replace hd := Aside0.mk hd.below)
  go_returns
  exact ⟨rfl, hb.out.trans (Below_low hd.out hb.out.size)⟩

set_option maxHeartbeats 8000000 in
set_option maxRecDepth 100000 in
theorem rfits_g_8_data (k p n a : Int) (A : Option Addr) (l c : Nat) (we wn : Int) (A1 : Option Addr) (c1 : Nat) (wd : List Int) (ge gn : Int) (A2 : Option Addr) (c2 : Nat) (gd : List Int) (r : Bool) (w : World) (h1 : Kd.C (Kd.int .u8) w A1 wd.length wd) (hc1 : wd.length ≤ c1) (h2 : Kd.C (Kd.int .u8) w A2 gd.length gd) (hc2 : gd.length ≤ c2)
    (hw : (we == 0) = true) (hg : gunnyref38_Refusal.f ge = some false) (hk : k = 8) (h3 : (we == ge) = true) (h4 : ((strOfNums wd).toList == (strOfNums gd).toList) = false) :
    Calls Try.prog 9 #[.agg #[.int .i64 k, .int .i64 p, .int .i64 n, .int .u64 a, .slice A l c], .agg #[.int .i64 we, .int .i64 wn, .slice A1 wd.length c1], .agg #[.int .i64 ge, .int .i64 gn, .slice A2 gd.length c2]] w fun e w' => e = .returned (.bool false) ∧ Below w.heap.size w w' := by
  have hb := below_alloc (below_alloc (below_alloc (Below.refl _ w) (C25 k p n a A l c)) (C28 we wn A1 wd.length c1)) (C28 ge gn A2 gd.length c2)
  have q0 := blk_alloc (blk_alloc (blk_new w (C25 k p n a A l c)) (C28 we wn A1 wd.length c1)) (C28 ge gn A2 gd.length c2)
  have q1 := blk_alloc (blk_new (w.alloc (C25 k p n a A l c)) (C28 we wn A1 wd.length c1)) (C28 ge gn A2 gd.length c2)
  have q2 := blk_new ((w.alloc (C25 k p n a A l c)).alloc (C28 we wn A1 wd.length c1)) (C28 ge gn A2 gd.length c2)
  rw [World.size_alloc] at q1
  rw [World.size_alloc, World.size_alloc] at q2
  have H1 := Kd.C_below h1 hb
  have H2 := Kd.C_below h2 hb
  unfold C25 C28 at hb q0 q1 q2 H1 H2
  replace hb := Aside0.mk hb
  clear h1 h2
  replace hk := Aside0.mk hk
  go_enter Try.func9, Try.ntmps9
  go_upto_region 1 with fail
  generalize ((w.alloc (.cells #[.int .i64 k, .int .i64 p, .int .i64 n, .int .u64 a, .slice A l c] 25 (0, 0))).alloc (.cells #[.int .i64 we, .int .i64 wn, .slice A1 wd.length c1] 28 (0, 0))).alloc (.cells #[.int .i64 ge, .int .i64 gn, .slice A2 gd.length c2] 28 (0, 0)) = w1 at *
  have k0 : w1.cell? ⟨w.heap.size, 0, none⟩ = some (.int .i64 k) := (blk_cell q0 0).trans rfl
  have y0 : w1.cell? ⟨w.heap.size + 1, 0, none⟩ = some (.int .i64 we) := (blk_cell q1 0).trans rfl
  have y1 : w1.cell? ⟨w.heap.size + 1, 1, none⟩ = some (.int .i64 wn) := (blk_cell q1 1).trans rfl
  have y2 : w1.cell? ⟨w.heap.size + 1, 2, none⟩ = some (.slice A1 wd.length c1) := (blk_cell q1 2).trans rfl
  have z0 : w1.cell? ⟨w.heap.size + 1 + 1, 0, none⟩ = some (.int .i64 ge) := (blk_cell q2 0).trans rfl
  have z1 : w1.cell? ⟨w.heap.size + 1 + 1, 1, none⟩ = some (.int .i64 gn) := (blk_cell q2 1).trans rfl
  have z2 : w1.cell? ⟨w.heap.size + 1 + 1, 2, none⟩ = some (.slice A2 gd.length c2) := (blk_cell q2 2).trans rfl
  have hr1 := Aside0.mk (fun (W : World) (hW : Below w1.heap.size w1 W) => (⟨(blk_cell (blk_below q0 hW) 0).trans rfl, (blk_cell (blk_below q1 hW) 1).trans rfl, (blk_cell (blk_below q2 hW) 1).trans rfl, (blk_cell (blk_below q2 hW) 2).trans rfl⟩ : W.cell? ⟨w.heap.size, 0, none⟩ = some (.int .i64 k) ∧ W.cell? ⟨w.heap.size + 1, 1, none⟩ = some (.int .i64 wn) ∧ W.cell? ⟨w.heap.size + 1 + 1, 1, none⟩ = some (.int .i64 gn) ∧ W.cell? ⟨w.heap.size + 1 + 1, 2, none⟩ = some (.slice A2 gd.length c2)))
  have hr2 := Aside0.mk (fun (W : World) (hW : Below w1.heap.size w1 W) => (⟨(blk_cell (blk_below q1 hW) 0).trans rfl, (blk_cell (blk_below q1 hW) 2).trans rfl, (blk_cell (blk_below q2 hW) 0).trans rfl⟩ : W.cell? ⟨w.heap.size + 1, 0, none⟩ = some (.int .i64 we) ∧ W.cell? ⟨w.heap.size + 1, 2, none⟩ = some (.slice A1 wd.length c1) ∧ W.cell? ⟨w.heap.size + 1 + 1, 0, none⟩ = some (.int .i64 ge)))
  clear q0 q1 q2
  have hC := Aside0.mk (fun W => gunnyref38_Refusal.calls ge false W hg)
  have hs1 := fun (W : World) (hW : Below w1.heap.size w1 W) => Kd.C_string (P := Try.prog) (c := c1) Try.underlying23 Try.underlying5 Try.underlying9 (Kd.C_below H1 hW)
  have hs2 := fun (W : World) (hW : Below w1.heap.size w1 W) => Kd.C_string (P := Try.prog) (c := c2) Try.underlying23 Try.underlying5 Try.underlying9 (Kd.C_below H2 hW)
  clear H1 H2 hc1 hc2
  have e6 : (k == 6) = false := beq_eq_false_iff_ne.mpr (by have := hk.out; omega)
  have e7 : (k == 7) = false := beq_eq_false_iff_ne.mpr (by have := hk.out; omega)
  have e8 : (k == 8) = true := beq_iff_eq.mpr hk.out
  clear hk
  clear hg
  replace hs1 := Aside0.mk hs1
  replace hs2 := Aside0.mk hs2
  go_wp2_with (go_at_call 27; refine (hC.out _).mono ?_; rintro e w3 ⟨rfl, hd⟩; obtain ⟨g0, g1, g2, g3⟩ := hr1.out _ hd.below; obtain ⟨g4, g5, g6⟩ := hr2.out _ hd.below; have hs1' := hs1.out _ hd.below; have hs2' := hs2.out _ hd.below; replace hd := Aside0.mk hd.below)
  go_returns
  exact ⟨rfl, hb.out.trans (Below_low hd.out hb.out.size)⟩

set_option maxHeartbeats 8000000 in
set_option maxRecDepth 100000 in
theorem rfits_g_8_yes (k p n a : Int) (A : Option Addr) (l c : Nat) (we wn : Int) (A1 : Option Addr) (c1 : Nat) (wd : List Int) (ge gn : Int) (A2 : Option Addr) (c2 : Nat) (gd : List Int) (r : Bool) (w : World) (h1 : Kd.C (Kd.int .u8) w A1 wd.length wd) (hc1 : wd.length ≤ c1) (h2 : Kd.C (Kd.int .u8) w A2 gd.length gd) (hc2 : gd.length ≤ c2)
    (hw : (we == 0) = true) (hg : gunnyref38_Refusal.f ge = some false) (hk : k = 8) (h3 : (we == ge) = true) (h4 : ((strOfNums wd).toList == (strOfNums gd).toList) = true) :
    Calls Try.prog 9 #[.agg #[.int .i64 k, .int .i64 p, .int .i64 n, .int .u64 a, .slice A l c], .agg #[.int .i64 we, .int .i64 wn, .slice A1 wd.length c1], .agg #[.int .i64 ge, .int .i64 gn, .slice A2 gd.length c2]] w fun e w' => e = .returned (.bool true) ∧ Below w.heap.size w w' := by
  have hb := below_alloc (below_alloc (below_alloc (Below.refl _ w) (C25 k p n a A l c)) (C28 we wn A1 wd.length c1)) (C28 ge gn A2 gd.length c2)
  have q0 := blk_alloc (blk_alloc (blk_new w (C25 k p n a A l c)) (C28 we wn A1 wd.length c1)) (C28 ge gn A2 gd.length c2)
  have q1 := blk_alloc (blk_new (w.alloc (C25 k p n a A l c)) (C28 we wn A1 wd.length c1)) (C28 ge gn A2 gd.length c2)
  have q2 := blk_new ((w.alloc (C25 k p n a A l c)).alloc (C28 we wn A1 wd.length c1)) (C28 ge gn A2 gd.length c2)
  rw [World.size_alloc] at q1
  rw [World.size_alloc, World.size_alloc] at q2
  have H1 := Kd.C_below h1 hb
  have H2 := Kd.C_below h2 hb
  unfold C25 C28 at hb q0 q1 q2 H1 H2
  replace hb := Aside0.mk hb
  clear h1 h2
  replace hk := Aside0.mk hk
  go_enter Try.func9, Try.ntmps9
  go_upto_region 1 with fail
  generalize ((w.alloc (.cells #[.int .i64 k, .int .i64 p, .int .i64 n, .int .u64 a, .slice A l c] 25 (0, 0))).alloc (.cells #[.int .i64 we, .int .i64 wn, .slice A1 wd.length c1] 28 (0, 0))).alloc (.cells #[.int .i64 ge, .int .i64 gn, .slice A2 gd.length c2] 28 (0, 0)) = w1 at *
  have k0 : w1.cell? ⟨w.heap.size, 0, none⟩ = some (.int .i64 k) := (blk_cell q0 0).trans rfl
  have y0 : w1.cell? ⟨w.heap.size + 1, 0, none⟩ = some (.int .i64 we) := (blk_cell q1 0).trans rfl
  have y1 : w1.cell? ⟨w.heap.size + 1, 1, none⟩ = some (.int .i64 wn) := (blk_cell q1 1).trans rfl
  have y2 : w1.cell? ⟨w.heap.size + 1, 2, none⟩ = some (.slice A1 wd.length c1) := (blk_cell q1 2).trans rfl
  have z0 : w1.cell? ⟨w.heap.size + 1 + 1, 0, none⟩ = some (.int .i64 ge) := (blk_cell q2 0).trans rfl
  have z1 : w1.cell? ⟨w.heap.size + 1 + 1, 1, none⟩ = some (.int .i64 gn) := (blk_cell q2 1).trans rfl
  have z2 : w1.cell? ⟨w.heap.size + 1 + 1, 2, none⟩ = some (.slice A2 gd.length c2) := (blk_cell q2 2).trans rfl
  have hr1 := Aside0.mk (fun (W : World) (hW : Below w1.heap.size w1 W) => (⟨(blk_cell (blk_below q0 hW) 0).trans rfl, (blk_cell (blk_below q1 hW) 1).trans rfl, (blk_cell (blk_below q2 hW) 1).trans rfl, (blk_cell (blk_below q2 hW) 2).trans rfl⟩ : W.cell? ⟨w.heap.size, 0, none⟩ = some (.int .i64 k) ∧ W.cell? ⟨w.heap.size + 1, 1, none⟩ = some (.int .i64 wn) ∧ W.cell? ⟨w.heap.size + 1 + 1, 1, none⟩ = some (.int .i64 gn) ∧ W.cell? ⟨w.heap.size + 1 + 1, 2, none⟩ = some (.slice A2 gd.length c2)))
  have hr2 := Aside0.mk (fun (W : World) (hW : Below w1.heap.size w1 W) => (⟨(blk_cell (blk_below q1 hW) 0).trans rfl, (blk_cell (blk_below q1 hW) 2).trans rfl, (blk_cell (blk_below q2 hW) 0).trans rfl⟩ : W.cell? ⟨w.heap.size + 1, 0, none⟩ = some (.int .i64 we) ∧ W.cell? ⟨w.heap.size + 1, 2, none⟩ = some (.slice A1 wd.length c1) ∧ W.cell? ⟨w.heap.size + 1 + 1, 0, none⟩ = some (.int .i64 ge)))
  clear q0 q1 q2
  have hC := Aside0.mk (fun W => gunnyref38_Refusal.calls ge false W hg)
  have hs1 := fun (W : World) (hW : Below w1.heap.size w1 W) => Kd.C_string (P := Try.prog) (c := c1) Try.underlying23 Try.underlying5 Try.underlying9 (Kd.C_below H1 hW)
  have hs2 := fun (W : World) (hW : Below w1.heap.size w1 W) => Kd.C_string (P := Try.prog) (c := c2) Try.underlying23 Try.underlying5 Try.underlying9 (Kd.C_below H2 hW)
  clear H1 H2 hc1 hc2
  have e6 : (k == 6) = false := beq_eq_false_iff_ne.mpr (by have := hk.out; omega)
  have e7 : (k == 7) = false := beq_eq_false_iff_ne.mpr (by have := hk.out; omega)
  have e8 : (k == 8) = true := beq_iff_eq.mpr hk.out
  clear hk
  clear hg
  replace hs1 := Aside0.mk hs1
  replace hs2 := Aside0.mk hs2
  go_wp2_with (go_at_call 27; refine (hC.out _).mono ?_; rintro e w3 ⟨rfl, hd⟩; obtain ⟨g0, g1, g2, g3⟩ := hr1.out _ hd.below; obtain ⟨g4, g5, g6⟩ := hr2.out _ hd.below; have hs1' := hs1.out _ hd.below; have hs2' := hs2.out _ hd.below; replace hd := Aside0.mk hd.below)
  go_returns
  exact ⟨rfl, hb.out.trans (Below_low hd.out hb.out.size)⟩

set_option maxHeartbeats 8000000 in
set_option maxRecDepth 100000 in
theorem rfits_g_9_err (k p n a : Int) (A : Option Addr) (l c : Nat) (we wn : Int) (A1 : Option Addr) (c1 : Nat) (wd : List Int) (ge gn : Int) (A2 : Option Addr) (c2 : Nat) (gd : List Int) (r : Bool) (w : World) (h1 : Kd.C (Kd.int .u8) w A1 wd.length wd) (hc1 : wd.length ≤ c1) (h2 : Kd.C (Kd.int .u8) w A2 gd.length gd) (hc2 : gd.length ≤ c2)
    (hw : (we == 0) = true) (hg : gunnyref38_Refusal.f ge = some false) (hk : k = 9) (h3 : (we == ge) = false) :
    Calls Try.prog 9 #[.agg #[.int .i64 k, .int .i64 p, .int .i64 n, .int .u64 a, .slice A l c], .agg #[.int .i64 we, .int .i64 wn, .slice A1 wd.length c1], .agg #[.int .i64 ge, .int .i64 gn, .slice A2 gd.length c2]] w fun e w' => e = .returned (.bool false) ∧ Below w.heap.size w w' := by
  have hb := below_alloc (below_alloc (below_alloc (Below.refl _ w) (C25 k p n a A l c)) (C28 we wn A1 wd.length c1)) (C28 ge gn A2 gd.length c2)
  have q0 := blk_alloc (blk_alloc (blk_new w (C25 k p n a A l c)) (C28 we wn A1 wd.length c1)) (C28 ge gn A2 gd.length c2)
  have q1 := blk_alloc (blk_new (w.alloc (C25 k p n a A l c)) (C28 we wn A1 wd.length c1)) (C28 ge gn A2 gd.length c2)
  have q2 := blk_new ((w.alloc (C25 k p n a A l c)).alloc (C28 we wn A1 wd.length c1)) (C28 ge gn A2 gd.length c2)
  rw [World.size_alloc] at q1
  rw [World.size_alloc, World.size_alloc] at q2
  have H1 := Kd.C_below h1 hb
  have H2 := Kd.C_below h2 hb
  unfold C25 C28 at hb q0 q1 q2 H1 H2
  replace hb := Aside0.mk hb
  clear h1 h2
  replace hk := Aside0.mk hk
  go_enter Try.func9, Try.ntmps9
  go_upto_region 1 with fail
  generalize ((w.alloc (.cells #[.int .i64 k, .int .i64 p, .int .i64 n, .int .u64 a, .slice A l c] 25 (0, 0))).alloc (.cells #[.int .i64 we, .int .i64 wn, .slice A1 wd.length c1] 28 (0, 0))).alloc (.cells #[.int .i64 ge, .int .i64 gn, .slice A2 gd.length c2] 28 (0, 0)) = w1 at *
  have k0 : w1.cell? ⟨w.heap.size, 0, none⟩ = some (.int .i64 k) := (blk_cell q0 0).trans rfl
  have y0 : w1.cell? ⟨w.heap.size + 1, 0, none⟩ = some (.int .i64 we) := (blk_cell q1 0).trans rfl
  have y1 : w1.cell? ⟨w.heap.size + 1, 1, none⟩ = some (.int .i64 wn) := (blk_cell q1 1).trans rfl
  have y2 : w1.cell? ⟨w.heap.size + 1, 2, none⟩ = some (.slice A1 wd.length c1) := (blk_cell q1 2).trans rfl
  have z0 : w1.cell? ⟨w.heap.size + 1 + 1, 0, none⟩ = some (.int .i64 ge) := (blk_cell q2 0).trans rfl
  have z1 : w1.cell? ⟨w.heap.size + 1 + 1, 1, none⟩ = some (.int .i64 gn) := (blk_cell q2 1).trans rfl
  have z2 : w1.cell? ⟨w.heap.size + 1 + 1, 2, none⟩ = some (.slice A2 gd.length c2) := (blk_cell q2 2).trans rfl
  have hr1 := Aside0.mk (fun (W : World) (hW : Below w1.heap.size w1 W) => (⟨(blk_cell (blk_below q0 hW) 0).trans rfl, (blk_cell (blk_below q1 hW) 1).trans rfl, (blk_cell (blk_below q2 hW) 1).trans rfl, (blk_cell (blk_below q2 hW) 2).trans rfl⟩ : W.cell? ⟨w.heap.size, 0, none⟩ = some (.int .i64 k) ∧ W.cell? ⟨w.heap.size + 1, 1, none⟩ = some (.int .i64 wn) ∧ W.cell? ⟨w.heap.size + 1 + 1, 1, none⟩ = some (.int .i64 gn) ∧ W.cell? ⟨w.heap.size + 1 + 1, 2, none⟩ = some (.slice A2 gd.length c2)))
  have hr2 := Aside0.mk (fun (W : World) (hW : Below w1.heap.size w1 W) => (⟨(blk_cell (blk_below q1 hW) 0).trans rfl, (blk_cell (blk_below q1 hW) 2).trans rfl, (blk_cell (blk_below q2 hW) 0).trans rfl⟩ : W.cell? ⟨w.heap.size + 1, 0, none⟩ = some (.int .i64 we) ∧ W.cell? ⟨w.heap.size + 1, 2, none⟩ = some (.slice A1 wd.length c1) ∧ W.cell? ⟨w.heap.size + 1 + 1, 0, none⟩ = some (.int .i64 ge)))
  clear q0 q1 q2
  have hC := Aside0.mk (fun W => gunnyref38_Refusal.calls ge false W hg)
  clear H1 H2 hc1 hc2
  have e6 : (k == 6) = false := beq_eq_false_iff_ne.mpr (by have := hk.out; omega)
  have e7 : (k == 7) = false := beq_eq_false_iff_ne.mpr (by have := hk.out; omega)
  have e8 : (k == 8) = false := beq_eq_false_iff_ne.mpr (by have := hk.out; omega)
  have e9 : (k == 9) = true := beq_iff_eq.mpr hk.out
  clear hk
  clear hg
  go_wp2_with (go_at_call 27; refine (hC.out _).mono ?_; rintro e w3 ⟨rfl, hd⟩; obtain ⟨g0, g1, g2, g3⟩ := hr1.out _ hd.below; obtain ⟨g4, g5, g6⟩ := hr2.out _ hd.below; replace hd := Aside0.mk hd.below)
  go_returns
  exact ⟨rfl, hb.out.trans (Below_low hd.out hb.out.size)⟩

set_option maxHeartbeats 8000000 in
set_option maxRecDepth 100000 in
theorem rfits_g_9_data (k p n a : Int) (A : Option Addr) (l c : Nat) (we wn : Int) (A1 : Option Addr) (c1 : Nat) (wd : List Int) (ge gn : Int) (A2 : Option Addr) (c2 : Nat) (gd : List Int) (r : Bool) (w : World) (h1 : Kd.C (Kd.int .u8) w A1 wd.length wd) (hc1 : wd.length ≤ c1) (h2 : Kd.C (Kd.int .u8) w A2 gd.length gd) (hc2 : gd.length ≤ c2)
    (hw : (we == 0) = true) (hg : gunnyref38_Refusal.f ge = some false) (hk : k = 9) (h3 : (we == ge) = true) (h4 : ((strOfNums wd).toList == (strOfNums gd).toList) = false) :
    Calls Try.prog 9 #[.agg #[.int .i64 k, .int .i64 p, .int .i64 n, .int .u64 a, .slice A l c], .agg #[.int .i64 we, .int .i64 wn, .slice A1 wd.length c1], .agg #[.int .i64 ge, .int .i64 gn, .slice A2 gd.length c2]] w fun e w' => e = .returned (.bool false) ∧ Below w.heap.size w w' := by
  have hb := below_alloc (below_alloc (below_alloc (Below.refl _ w) (C25 k p n a A l c)) (C28 we wn A1 wd.length c1)) (C28 ge gn A2 gd.length c2)
  have q0 := blk_alloc (blk_alloc (blk_new w (C25 k p n a A l c)) (C28 we wn A1 wd.length c1)) (C28 ge gn A2 gd.length c2)
  have q1 := blk_alloc (blk_new (w.alloc (C25 k p n a A l c)) (C28 we wn A1 wd.length c1)) (C28 ge gn A2 gd.length c2)
  have q2 := blk_new ((w.alloc (C25 k p n a A l c)).alloc (C28 we wn A1 wd.length c1)) (C28 ge gn A2 gd.length c2)
  rw [World.size_alloc] at q1
  rw [World.size_alloc, World.size_alloc] at q2
  have H1 := Kd.C_below h1 hb
  have H2 := Kd.C_below h2 hb
  unfold C25 C28 at hb q0 q1 q2 H1 H2
  replace hb := Aside0.mk hb
  clear h1 h2
  replace hk := Aside0.mk hk
  go_enter Try.func9, Try.ntmps9
  go_upto_region 1 with fail
  generalize ((w.alloc (.cells #[.int .i64 k, .int .i64 p, .int .i64 n, .int .u64 a, .slice A l c] 25 (0, 0))).alloc (.cells #[.int .i64 we, .int .i64 wn, .slice A1 wd.length c1] 28 (0, 0))).alloc (.cells #[.int .i64 ge, .int .i64 gn, .slice A2 gd.length c2] 28 (0, 0)) = w1 at *
  have k0 : w1.cell? ⟨w.heap.size, 0, none⟩ = some (.int .i64 k) := (blk_cell q0 0).trans rfl
  have y0 : w1.cell? ⟨w.heap.size + 1, 0, none⟩ = some (.int .i64 we) := (blk_cell q1 0).trans rfl
  have y1 : w1.cell? ⟨w.heap.size + 1, 1, none⟩ = some (.int .i64 wn) := (blk_cell q1 1).trans rfl
  have y2 : w1.cell? ⟨w.heap.size + 1, 2, none⟩ = some (.slice A1 wd.length c1) := (blk_cell q1 2).trans rfl
  have z0 : w1.cell? ⟨w.heap.size + 1 + 1, 0, none⟩ = some (.int .i64 ge) := (blk_cell q2 0).trans rfl
  have z1 : w1.cell? ⟨w.heap.size + 1 + 1, 1, none⟩ = some (.int .i64 gn) := (blk_cell q2 1).trans rfl
  have z2 : w1.cell? ⟨w.heap.size + 1 + 1, 2, none⟩ = some (.slice A2 gd.length c2) := (blk_cell q2 2).trans rfl
  have hr1 := Aside0.mk (fun (W : World) (hW : Below w1.heap.size w1 W) => (⟨(blk_cell (blk_below q0 hW) 0).trans rfl, (blk_cell (blk_below q1 hW) 1).trans rfl, (blk_cell (blk_below q2 hW) 1).trans rfl, (blk_cell (blk_below q2 hW) 2).trans rfl⟩ : W.cell? ⟨w.heap.size, 0, none⟩ = some (.int .i64 k) ∧ W.cell? ⟨w.heap.size + 1, 1, none⟩ = some (.int .i64 wn) ∧ W.cell? ⟨w.heap.size + 1 + 1, 1, none⟩ = some (.int .i64 gn) ∧ W.cell? ⟨w.heap.size + 1 + 1, 2, none⟩ = some (.slice A2 gd.length c2)))
  have hr2 := Aside0.mk (fun (W : World) (hW : Below w1.heap.size w1 W) => (⟨(blk_cell (blk_below q1 hW) 0).trans rfl, (blk_cell (blk_below q1 hW) 2).trans rfl, (blk_cell (blk_below q2 hW) 0).trans rfl⟩ : W.cell? ⟨w.heap.size + 1, 0, none⟩ = some (.int .i64 we) ∧ W.cell? ⟨w.heap.size + 1, 2, none⟩ = some (.slice A1 wd.length c1) ∧ W.cell? ⟨w.heap.size + 1 + 1, 0, none⟩ = some (.int .i64 ge)))
  clear q0 q1 q2
  have hC := Aside0.mk (fun W => gunnyref38_Refusal.calls ge false W hg)
  have hs1 := fun (W : World) (hW : Below w1.heap.size w1 W) => Kd.C_string (P := Try.prog) (c := c1) Try.underlying23 Try.underlying5 Try.underlying9 (Kd.C_below H1 hW)
  have hs2 := fun (W : World) (hW : Below w1.heap.size w1 W) => Kd.C_string (P := Try.prog) (c := c2) Try.underlying23 Try.underlying5 Try.underlying9 (Kd.C_below H2 hW)
  clear H1 H2 hc1 hc2
  have e6 : (k == 6) = false := beq_eq_false_iff_ne.mpr (by have := hk.out; omega)
  have e7 : (k == 7) = false := beq_eq_false_iff_ne.mpr (by have := hk.out; omega)
  have e8 : (k == 8) = false := beq_eq_false_iff_ne.mpr (by have := hk.out; omega)
  have e9 : (k == 9) = true := beq_iff_eq.mpr hk.out
  clear hk
  clear hg
  replace hs1 := Aside0.mk hs1
  replace hs2 := Aside0.mk hs2
  go_wp2_with (go_at_call 27; refine (hC.out _).mono ?_; rintro e w3 ⟨rfl, hd⟩; obtain ⟨g0, g1, g2, g3⟩ := hr1.out _ hd.below; obtain ⟨g4, g5, g6⟩ := hr2.out _ hd.below; have hs1' := hs1.out _ hd.below; have hs2' := hs2.out _ hd.below; replace hd := Aside0.mk hd.below)
  go_returns
  exact ⟨rfl, hb.out.trans (Below_low hd.out hb.out.size)⟩

set_option maxHeartbeats 8000000 in
set_option maxRecDepth 100000 in
theorem rfits_g_9_yes (k p n a : Int) (A : Option Addr) (l c : Nat) (we wn : Int) (A1 : Option Addr) (c1 : Nat) (wd : List Int) (ge gn : Int) (A2 : Option Addr) (c2 : Nat) (gd : List Int) (r : Bool) (w : World) (h1 : Kd.C (Kd.int .u8) w A1 wd.length wd) (hc1 : wd.length ≤ c1) (h2 : Kd.C (Kd.int .u8) w A2 gd.length gd) (hc2 : gd.length ≤ c2)
    (hw : (we == 0) = true) (hg : gunnyref38_Refusal.f ge = some false) (hk : k = 9) (h3 : (we == ge) = true) (h4 : ((strOfNums wd).toList == (strOfNums gd).toList) = true) :
    Calls Try.prog 9 #[.agg #[.int .i64 k, .int .i64 p, .int .i64 n, .int .u64 a, .slice A l c], .agg #[.int .i64 we, .int .i64 wn, .slice A1 wd.length c1], .agg #[.int .i64 ge, .int .i64 gn, .slice A2 gd.length c2]] w fun e w' => e = .returned (.bool true) ∧ Below w.heap.size w w' := by
  have hb := below_alloc (below_alloc (below_alloc (Below.refl _ w) (C25 k p n a A l c)) (C28 we wn A1 wd.length c1)) (C28 ge gn A2 gd.length c2)
  have q0 := blk_alloc (blk_alloc (blk_new w (C25 k p n a A l c)) (C28 we wn A1 wd.length c1)) (C28 ge gn A2 gd.length c2)
  have q1 := blk_alloc (blk_new (w.alloc (C25 k p n a A l c)) (C28 we wn A1 wd.length c1)) (C28 ge gn A2 gd.length c2)
  have q2 := blk_new ((w.alloc (C25 k p n a A l c)).alloc (C28 we wn A1 wd.length c1)) (C28 ge gn A2 gd.length c2)
  rw [World.size_alloc] at q1
  rw [World.size_alloc, World.size_alloc] at q2
  have H1 := Kd.C_below h1 hb
  have H2 := Kd.C_below h2 hb
  unfold C25 C28 at hb q0 q1 q2 H1 H2
  replace hb := Aside0.mk hb
  clear h1 h2
  replace hk := Aside0.mk hk
  go_enter Try.func9, Try.ntmps9
  go_upto_region 1 with fail
  generalize ((w.alloc (.cells #[.int .i64 k, .int .i64 p, .int .i64 n, .int .u64 a, .slice A l c] 25 (0, 0))).alloc (.cells #[.int .i64 we, .int .i64 wn, .slice A1 wd.length c1] 28 (0, 0))).alloc (.cells #[.int .i64 ge, .int .i64 gn, .slice A2 gd.length c2] 28 (0, 0)) = w1 at *
  have k0 : w1.cell? ⟨w.heap.size, 0, none⟩ = some (.int .i64 k) := (blk_cell q0 0).trans rfl
  have y0 : w1.cell? ⟨w.heap.size + 1, 0, none⟩ = some (.int .i64 we) := (blk_cell q1 0).trans rfl
  have y1 : w1.cell? ⟨w.heap.size + 1, 1, none⟩ = some (.int .i64 wn) := (blk_cell q1 1).trans rfl
  have y2 : w1.cell? ⟨w.heap.size + 1, 2, none⟩ = some (.slice A1 wd.length c1) := (blk_cell q1 2).trans rfl
  have z0 : w1.cell? ⟨w.heap.size + 1 + 1, 0, none⟩ = some (.int .i64 ge) := (blk_cell q2 0).trans rfl
  have z1 : w1.cell? ⟨w.heap.size + 1 + 1, 1, none⟩ = some (.int .i64 gn) := (blk_cell q2 1).trans rfl
  have z2 : w1.cell? ⟨w.heap.size + 1 + 1, 2, none⟩ = some (.slice A2 gd.length c2) := (blk_cell q2 2).trans rfl
  have hr1 := Aside0.mk (fun (W : World) (hW : Below w1.heap.size w1 W) => (⟨(blk_cell (blk_below q0 hW) 0).trans rfl, (blk_cell (blk_below q1 hW) 1).trans rfl, (blk_cell (blk_below q2 hW) 1).trans rfl, (blk_cell (blk_below q2 hW) 2).trans rfl⟩ : W.cell? ⟨w.heap.size, 0, none⟩ = some (.int .i64 k) ∧ W.cell? ⟨w.heap.size + 1, 1, none⟩ = some (.int .i64 wn) ∧ W.cell? ⟨w.heap.size + 1 + 1, 1, none⟩ = some (.int .i64 gn) ∧ W.cell? ⟨w.heap.size + 1 + 1, 2, none⟩ = some (.slice A2 gd.length c2)))
  have hr2 := Aside0.mk (fun (W : World) (hW : Below w1.heap.size w1 W) => (⟨(blk_cell (blk_below q1 hW) 0).trans rfl, (blk_cell (blk_below q1 hW) 2).trans rfl, (blk_cell (blk_below q2 hW) 0).trans rfl⟩ : W.cell? ⟨w.heap.size + 1, 0, none⟩ = some (.int .i64 we) ∧ W.cell? ⟨w.heap.size + 1, 2, none⟩ = some (.slice A1 wd.length c1) ∧ W.cell? ⟨w.heap.size + 1 + 1, 0, none⟩ = some (.int .i64 ge)))
  clear q0 q1 q2
  have hC := Aside0.mk (fun W => gunnyref38_Refusal.calls ge false W hg)
  have hs1 := fun (W : World) (hW : Below w1.heap.size w1 W) => Kd.C_string (P := Try.prog) (c := c1) Try.underlying23 Try.underlying5 Try.underlying9 (Kd.C_below H1 hW)
  have hs2 := fun (W : World) (hW : Below w1.heap.size w1 W) => Kd.C_string (P := Try.prog) (c := c2) Try.underlying23 Try.underlying5 Try.underlying9 (Kd.C_below H2 hW)
  clear H1 H2 hc1 hc2
  have e6 : (k == 6) = false := beq_eq_false_iff_ne.mpr (by have := hk.out; omega)
  have e7 : (k == 7) = false := beq_eq_false_iff_ne.mpr (by have := hk.out; omega)
  have e8 : (k == 8) = false := beq_eq_false_iff_ne.mpr (by have := hk.out; omega)
  have e9 : (k == 9) = true := beq_iff_eq.mpr hk.out
  clear hk
  clear hg
  replace hs1 := Aside0.mk hs1
  replace hs2 := Aside0.mk hs2
  go_wp2_with (go_at_call 27; refine (hC.out _).mono ?_; rintro e w3 ⟨rfl, hd⟩; obtain ⟨g0, g1, g2, g3⟩ := hr1.out _ hd.below; obtain ⟨g4, g5, g6⟩ := hr2.out _ hd.below; have hs1' := hs1.out _ hd.below; have hs2' := hs2.out _ hd.below; replace hd := Aside0.mk hd.below)
  go_returns
  exact ⟨rfl, hb.out.trans (Below_low hd.out hb.out.size)⟩

set_option maxHeartbeats 8000000 in
set_option maxRecDepth 100000 in
theorem rfits_g_none_err (k p n a : Int) (A : Option Addr) (l c : Nat) (we wn : Int) (A1 : Option Addr) (c1 : Nat) (wd : List Int) (ge gn : Int) (A2 : Option Addr) (c2 : Nat) (gd : List Int) (r : Bool) (w : World) (h1 : Kd.C (Kd.int .u8) w A1 wd.length wd) (hc1 : wd.length ≤ c1) (h2 : Kd.C (Kd.int .u8) w A2 gd.length gd) (hc2 : gd.length ≤ c2)
    (hw : (we == 0) = true) (hg : gunnyref38_Refusal.f ge = some false) (hk : k ≠ 6 ∧ k ≠ 7 ∧ k ≠ 8 ∧ k ≠ 9) (h3 : (we == ge) = false) :
    Calls Try.prog 9 #[.agg #[.int .i64 k, .int .i64 p, .int .i64 n, .int .u64 a, .slice A l c], .agg #[.int .i64 we, .int .i64 wn, .slice A1 wd.length c1], .agg #[.int .i64 ge, .int .i64 gn, .slice A2 gd.length c2]] w fun e w' => e = .returned (.bool false) ∧ Below w.heap.size w w' := by
  have hb := below_alloc (below_alloc (below_alloc (Below.refl _ w) (C25 k p n a A l c)) (C28 we wn A1 wd.length c1)) (C28 ge gn A2 gd.length c2)
  have q0 := blk_alloc (blk_alloc (blk_new w (C25 k p n a A l c)) (C28 we wn A1 wd.length c1)) (C28 ge gn A2 gd.length c2)
  have q1 := blk_alloc (blk_new (w.alloc (C25 k p n a A l c)) (C28 we wn A1 wd.length c1)) (C28 ge gn A2 gd.length c2)
  have q2 := blk_new ((w.alloc (C25 k p n a A l c)).alloc (C28 we wn A1 wd.length c1)) (C28 ge gn A2 gd.length c2)
  rw [World.size_alloc] at q1
  rw [World.size_alloc, World.size_alloc] at q2
  have H1 := Kd.C_below h1 hb
  have H2 := Kd.C_below h2 hb
  unfold C25 C28 at hb q0 q1 q2 H1 H2
  replace hb := Aside0.mk hb
  clear h1 h2
  replace hk := Aside0.mk hk
  go_enter Try.func9, Try.ntmps9
  go_upto_region 1 with fail
  generalize ((w.alloc (.cells #[.int .i64 k, .int .i64 p, .int .i64 n, .int .u64 a, .slice A l c] 25 (0, 0))).alloc (.cells #[.int .i64 we, .int .i64 wn, .slice A1 wd.length c1] 28 (0, 0))).alloc (.cells #[.int .i64 ge, .int .i64 gn, .slice A2 gd.length c2] 28 (0, 0)) = w1 at *
  have k0 : w1.cell? ⟨w.heap.size, 0, none⟩ = some (.int .i64 k) := (blk_cell q0 0).trans rfl
  have y0 : w1.cell? ⟨w.heap.size + 1, 0, none⟩ = some (.int .i64 we) := (blk_cell q1 0).trans rfl
  have y1 : w1.cell? ⟨w.heap.size + 1, 1, none⟩ = some (.int .i64 wn) := (blk_cell q1 1).trans rfl
  have y2 : w1.cell? ⟨w.heap.size + 1, 2, none⟩ = some (.slice A1 wd.length c1) := (blk_cell q1 2).trans rfl
  have z0 : w1.cell? ⟨w.heap.size + 1 + 1, 0, none⟩ = some (.int .i64 ge) := (blk_cell q2 0).trans rfl
  have z1 : w1.cell? ⟨w.heap.size + 1 + 1, 1, none⟩ = some (.int .i64 gn) := (blk_cell q2 1).trans rfl
  have z2 : w1.cell? ⟨w.heap.size + 1 + 1, 2, none⟩ = some (.slice A2 gd.length c2) := (blk_cell q2 2).trans rfl
  have hr1 := Aside0.mk (fun (W : World) (hW : Below w1.heap.size w1 W) => (⟨(blk_cell (blk_below q0 hW) 0).trans rfl, (blk_cell (blk_below q1 hW) 1).trans rfl, (blk_cell (blk_below q2 hW) 1).trans rfl, (blk_cell (blk_below q2 hW) 2).trans rfl⟩ : W.cell? ⟨w.heap.size, 0, none⟩ = some (.int .i64 k) ∧ W.cell? ⟨w.heap.size + 1, 1, none⟩ = some (.int .i64 wn) ∧ W.cell? ⟨w.heap.size + 1 + 1, 1, none⟩ = some (.int .i64 gn) ∧ W.cell? ⟨w.heap.size + 1 + 1, 2, none⟩ = some (.slice A2 gd.length c2)))
  have hr2 := Aside0.mk (fun (W : World) (hW : Below w1.heap.size w1 W) => (⟨(blk_cell (blk_below q1 hW) 0).trans rfl, (blk_cell (blk_below q1 hW) 2).trans rfl, (blk_cell (blk_below q2 hW) 0).trans rfl⟩ : W.cell? ⟨w.heap.size + 1, 0, none⟩ = some (.int .i64 we) ∧ W.cell? ⟨w.heap.size + 1, 2, none⟩ = some (.slice A1 wd.length c1) ∧ W.cell? ⟨w.heap.size + 1 + 1, 0, none⟩ = some (.int .i64 ge)))
  clear q0 q1 q2
  have hC := Aside0.mk (fun W => gunnyref38_Refusal.calls ge false W hg)
  clear H1 H2 hc1 hc2
  have e6 : (k == 6) = false := beq_eq_false_iff_ne.mpr (by have := hk.out; omega)
  have e7 : (k == 7) = false := beq_eq_false_iff_ne.mpr (by have := hk.out; omega)
  have e8 : (k == 8) = false := beq_eq_false_iff_ne.mpr (by have := hk.out; omega)
  have e9 : (k == 9) = false := beq_eq_false_iff_ne.mpr (by have := hk.out; omega)
  clear hk
  clear hg
  go_wp2_with (go_at_call 27; refine (hC.out _).mono ?_; rintro e w3 ⟨rfl, hd⟩; obtain ⟨g0, g1, g2, g3⟩ := hr1.out _ hd.below; obtain ⟨g4, g5, g6⟩ := hr2.out _ hd.below; replace hd := Aside0.mk hd.below)
  go_returns
  exact ⟨rfl, hb.out.trans (Below_low hd.out hb.out.size)⟩

set_option maxHeartbeats 8000000 in
set_option maxRecDepth 100000 in
theorem rfits_g_none_data (k p n a : Int) (A : Option Addr) (l c : Nat) (we wn : Int) (A1 : Option Addr) (c1 : Nat) (wd : List Int) (ge gn : Int) (A2 : Option Addr) (c2 : Nat) (gd : List Int) (r : Bool) (w : World) (h1 : Kd.C (Kd.int .u8) w A1 wd.length wd) (hc1 : wd.length ≤ c1) (h2 : Kd.C (Kd.int .u8) w A2 gd.length gd) (hc2 : gd.length ≤ c2)
    (hw : (we == 0) = true) (hg : gunnyref38_Refusal.f ge = some false) (hk : k ≠ 6 ∧ k ≠ 7 ∧ k ≠ 8 ∧ k ≠ 9) (h3 : (we == ge) = true) (h4 : ((strOfNums wd).toList == (strOfNums gd).toList) = false) :
    Calls Try.prog 9 #[.agg #[.int .i64 k, .int .i64 p, .int .i64 n, .int .u64 a, .slice A l c], .agg #[.int .i64 we, .int .i64 wn, .slice A1 wd.length c1], .agg #[.int .i64 ge, .int .i64 gn, .slice A2 gd.length c2]] w fun e w' => e = .returned (.bool false) ∧ Below w.heap.size w w' := by
  have hb := below_alloc (below_alloc (below_alloc (Below.refl _ w) (C25 k p n a A l c)) (C28 we wn A1 wd.length c1)) (C28 ge gn A2 gd.length c2)
  have q0 := blk_alloc (blk_alloc (blk_new w (C25 k p n a A l c)) (C28 we wn A1 wd.length c1)) (C28 ge gn A2 gd.length c2)
  have q1 := blk_alloc (blk_new (w.alloc (C25 k p n a A l c)) (C28 we wn A1 wd.length c1)) (C28 ge gn A2 gd.length c2)
  have q2 := blk_new ((w.alloc (C25 k p n a A l c)).alloc (C28 we wn A1 wd.length c1)) (C28 ge gn A2 gd.length c2)
  rw [World.size_alloc] at q1
  rw [World.size_alloc, World.size_alloc] at q2
  have H1 := Kd.C_below h1 hb
  have H2 := Kd.C_below h2 hb
  unfold C25 C28 at hb q0 q1 q2 H1 H2
  replace hb := Aside0.mk hb
  clear h1 h2
  replace hk := Aside0.mk hk
  go_enter Try.func9, Try.ntmps9
  go_upto_region 1 with fail
  generalize ((w.alloc (.cells #[.int .i64 k, .int .i64 p, .int .i64 n, .int .u64 a, .slice A l c] 25 (0, 0))).alloc (.cells #[.int .i64 we, .int .i64 wn, .slice A1 wd.length c1] 28 (0, 0))).alloc (.cells #[.int .i64 ge, .int .i64 gn, .slice A2 gd.length c2] 28 (0, 0)) = w1 at *
  have k0 : w1.cell? ⟨w.heap.size, 0, none⟩ = some (.int .i64 k) := (blk_cell q0 0).trans rfl
  have y0 : w1.cell? ⟨w.heap.size + 1, 0, none⟩ = some (.int .i64 we) := (blk_cell q1 0).trans rfl
  have y1 : w1.cell? ⟨w.heap.size + 1, 1, none⟩ = some (.int .i64 wn) := (blk_cell q1 1).trans rfl
  have y2 : w1.cell? ⟨w.heap.size + 1, 2, none⟩ = some (.slice A1 wd.length c1) := (blk_cell q1 2).trans rfl
  have z0 : w1.cell? ⟨w.heap.size + 1 + 1, 0, none⟩ = some (.int .i64 ge) := (blk_cell q2 0).trans rfl
  have z1 : w1.cell? ⟨w.heap.size + 1 + 1, 1, none⟩ = some (.int .i64 gn) := (blk_cell q2 1).trans rfl
  have z2 : w1.cell? ⟨w.heap.size + 1 + 1, 2, none⟩ = some (.slice A2 gd.length c2) := (blk_cell q2 2).trans rfl
  have hr1 := Aside0.mk (fun (W : World) (hW : Below w1.heap.size w1 W) => (⟨(blk_cell (blk_below q0 hW) 0).trans rfl, (blk_cell (blk_below q1 hW) 1).trans rfl, (blk_cell (blk_below q2 hW) 1).trans rfl, (blk_cell (blk_below q2 hW) 2).trans rfl⟩ : W.cell? ⟨w.heap.size, 0, none⟩ = some (.int .i64 k) ∧ W.cell? ⟨w.heap.size + 1, 1, none⟩ = some (.int .i64 wn) ∧ W.cell? ⟨w.heap.size + 1 + 1, 1, none⟩ = some (.int .i64 gn) ∧ W.cell? ⟨w.heap.size + 1 + 1, 2, none⟩ = some (.slice A2 gd.length c2)))
  have hr2 := Aside0.mk (fun (W : World) (hW : Below w1.heap.size w1 W) => (⟨(blk_cell (blk_below q1 hW) 0).trans rfl, (blk_cell (blk_below q1 hW) 2).trans rfl, (blk_cell (blk_below q2 hW) 0).trans rfl⟩ : W.cell? ⟨w.heap.size + 1, 0, none⟩ = some (.int .i64 we) ∧ W.cell? ⟨w.heap.size + 1, 2, none⟩ = some (.slice A1 wd.length c1) ∧ W.cell? ⟨w.heap.size + 1 + 1, 0, none⟩ = some (.int .i64 ge)))
  clear q0 q1 q2
  have hC := Aside0.mk (fun W => gunnyref38_Refusal.calls ge false W hg)
  have hs1 := fun (W : World) (hW : Below w1.heap.size w1 W) => Kd.C_string (P := Try.prog) (c := c1) Try.underlying23 Try.underlying5 Try.underlying9 (Kd.C_below H1 hW)
  have hs2 := fun (W : World) (hW : Below w1.heap.size w1 W) => Kd.C_string (P := Try.prog) (c := c2) Try.underlying23 Try.underlying5 Try.underlying9 (Kd.C_below H2 hW)
  clear H1 H2 hc1 hc2
  have e6 : (k == 6) = false := beq_eq_false_iff_ne.mpr (by have := hk.out; omega)
  have e7 : (k == 7) = false := beq_eq_false_iff_ne.mpr (by have := hk.out; omega)
  have e8 : (k == 8) = false := beq_eq_false_iff_ne.mpr (by have := hk.out; omega)
  have e9 : (k == 9) = false := beq_eq_false_iff_ne.mpr (by have := hk.out; omega)
  clear hk
  clear hg
  replace hs1 := Aside0.mk hs1
  replace hs2 := Aside0.mk hs2
  go_wp2_with (go_at_call 27; refine (hC.out _).mono ?_; rintro e w3 ⟨rfl, hd⟩; obtain ⟨g0, g1, g2, g3⟩ := hr1.out _ hd.below; obtain ⟨g4, g5, g6⟩ := hr2.out _ hd.below; have hs1' := hs1.out _ hd.below; have hs2' := hs2.out _ hd.below; replace hd := Aside0.mk hd.below)
  go_returns
  exact ⟨rfl, hb.out.trans (Below_low hd.out hb.out.size)⟩

set_option maxHeartbeats 8000000 in
set_option maxRecDepth 100000 in
theorem rfits_g_none_n (k p n a : Int) (A : Option Addr) (l c : Nat) (we wn : Int) (A1 : Option Addr) (c1 : Nat) (wd : List Int) (ge gn : Int) (A2 : Option Addr) (c2 : Nat) (gd : List Int) (r : Bool) (w : World) (h1 : Kd.C (Kd.int .u8) w A1 wd.length wd) (hc1 : wd.length ≤ c1) (h2 : Kd.C (Kd.int .u8) w A2 gd.length gd) (hc2 : gd.length ≤ c2)
    (hw : (we == 0) = true) (hg : gunnyref38_Refusal.f ge = some false) (hk : k ≠ 6 ∧ k ≠ 7 ∧ k ≠ 8 ∧ k ≠ 9) (h3 : (we == ge) = true) (h4 : ((strOfNums wd).toList == (strOfNums gd).toList) = true) (h5 : (wn == gn) = true) :
    Calls Try.prog 9 #[.agg #[.int .i64 k, .int .i64 p, .int .i64 n, .int .u64 a, .slice A l c], .agg #[.int .i64 we, .int .i64 wn, .slice A1 wd.length c1], .agg #[.int .i64 ge, .int .i64 gn, .slice A2 gd.length c2]] w fun e w' => e = .returned (.bool true) ∧ Below w.heap.size w w' := by
  have hb := below_alloc (below_alloc (below_alloc (Below.refl _ w) (C25 k p n a A l c)) (C28 we wn A1 wd.length c1)) (C28 ge gn A2 gd.length c2)
  have q0 := blk_alloc (blk_alloc (blk_new w (C25 k p n a A l c)) (C28 we wn A1 wd.length c1)) (C28 ge gn A2 gd.length c2)
  have q1 := blk_alloc (blk_new (w.alloc (C25 k p n a A l c)) (C28 we wn A1 wd.length c1)) (C28 ge gn A2 gd.length c2)
  have q2 := blk_new ((w.alloc (C25 k p n a A l c)).alloc (C28 we wn A1 wd.length c1)) (C28 ge gn A2 gd.length c2)
  rw [World.size_alloc] at q1
  rw [World.size_alloc, World.size_alloc] at q2
  have H1 := Kd.C_below h1 hb
  have H2 := Kd.C_below h2 hb
  unfold C25 C28 at hb q0 q1 q2 H1 H2
  replace hb := Aside0.mk hb
  clear h1 h2
  replace hk := Aside0.mk hk
  go_enter Try.func9, Try.ntmps9
  go_upto_region 1 with fail
  generalize ((w.alloc (.cells #[.int .i64 k, .int .i64 p, .int .i64 n, .int .u64 a, .slice A l c] 25 (0, 0))).alloc (.cells #[.int .i64 we, .int .i64 wn, .slice A1 wd.length c1] 28 (0, 0))).alloc (.cells #[.int .i64 ge, .int .i64 gn, .slice A2 gd.length c2] 28 (0, 0)) = w1 at *
  have k0 : w1.cell? ⟨w.heap.size, 0, none⟩ = some (.int .i64 k) := (blk_cell q0 0).trans rfl
  have y0 : w1.cell? ⟨w.heap.size + 1, 0, none⟩ = some (.int .i64 we) := (blk_cell q1 0).trans rfl
  have y1 : w1.cell? ⟨w.heap.size + 1, 1, none⟩ = some (.int .i64 wn) := (blk_cell q1 1).trans rfl
  have y2 : w1.cell? ⟨w.heap.size + 1, 2, none⟩ = some (.slice A1 wd.length c1) := (blk_cell q1 2).trans rfl
  have z0 : w1.cell? ⟨w.heap.size + 1 + 1, 0, none⟩ = some (.int .i64 ge) := (blk_cell q2 0).trans rfl
  have z1 : w1.cell? ⟨w.heap.size + 1 + 1, 1, none⟩ = some (.int .i64 gn) := (blk_cell q2 1).trans rfl
  have z2 : w1.cell? ⟨w.heap.size + 1 + 1, 2, none⟩ = some (.slice A2 gd.length c2) := (blk_cell q2 2).trans rfl
  have hr1 := Aside0.mk (fun (W : World) (hW : Below w1.heap.size w1 W) => (⟨(blk_cell (blk_below q0 hW) 0).trans rfl, (blk_cell (blk_below q1 hW) 1).trans rfl, (blk_cell (blk_below q2 hW) 1).trans rfl, (blk_cell (blk_below q2 hW) 2).trans rfl⟩ : W.cell? ⟨w.heap.size, 0, none⟩ = some (.int .i64 k) ∧ W.cell? ⟨w.heap.size + 1, 1, none⟩ = some (.int .i64 wn) ∧ W.cell? ⟨w.heap.size + 1 + 1, 1, none⟩ = some (.int .i64 gn) ∧ W.cell? ⟨w.heap.size + 1 + 1, 2, none⟩ = some (.slice A2 gd.length c2)))
  have hr2 := Aside0.mk (fun (W : World) (hW : Below w1.heap.size w1 W) => (⟨(blk_cell (blk_below q1 hW) 0).trans rfl, (blk_cell (blk_below q1 hW) 2).trans rfl, (blk_cell (blk_below q2 hW) 0).trans rfl⟩ : W.cell? ⟨w.heap.size + 1, 0, none⟩ = some (.int .i64 we) ∧ W.cell? ⟨w.heap.size + 1, 2, none⟩ = some (.slice A1 wd.length c1) ∧ W.cell? ⟨w.heap.size + 1 + 1, 0, none⟩ = some (.int .i64 ge)))
  clear q0 q1 q2
  have hC := Aside0.mk (fun W => gunnyref38_Refusal.calls ge false W hg)
  have hs1 := fun (W : World) (hW : Below w1.heap.size w1 W) => Kd.C_string (P := Try.prog) (c := c1) Try.underlying23 Try.underlying5 Try.underlying9 (Kd.C_below H1 hW)
  have hs2 := fun (W : World) (hW : Below w1.heap.size w1 W) => Kd.C_string (P := Try.prog) (c := c2) Try.underlying23 Try.underlying5 Try.underlying9 (Kd.C_below H2 hW)
  clear H1 H2 hc1 hc2
  have e6 : (k == 6) = false := beq_eq_false_iff_ne.mpr (by have := hk.out; omega)
  have e7 : (k == 7) = false := beq_eq_false_iff_ne.mpr (by have := hk.out; omega)
  have e8 : (k == 8) = false := beq_eq_false_iff_ne.mpr (by have := hk.out; omega)
  have e9 : (k == 9) = false := beq_eq_false_iff_ne.mpr (by have := hk.out; omega)
  clear hk
  clear hg
  replace hs1 := Aside0.mk hs1
  replace hs2 := Aside0.mk hs2
  go_wp2_with (go_at_call 27; refine (hC.out _).mono ?_; rintro e w3 ⟨rfl, hd⟩; obtain ⟨g0, g1, g2, g3⟩ := hr1.out _ hd.below; obtain ⟨g4, g5, g6⟩ := hr2.out _ hd.below; have hs1' := hs1.out _ hd.below; have hs2' := hs2.out _ hd.below; replace hd := Aside0.mk hd.below)
  go_returns
  exact ⟨rfl, hb.out.trans (Below_low hd.out hb.out.size)⟩

set_option maxHeartbeats 8000000 in
set_option maxRecDepth 100000 in
theorem rfits_g_none_m (k p n a : Int) (A : Option Addr) (l c : Nat) (we wn : Int) (A1 : Option Addr) (c1 : Nat) (wd : List Int) (ge gn : Int) (A2 : Option Addr) (c2 : Nat) (gd : List Int) (r : Bool) (w : World) (h1 : Kd.C (Kd.int .u8) w A1 wd.length wd) (hc1 : wd.length ≤ c1) (h2 : Kd.C (Kd.int .u8) w A2 gd.length gd) (hc2 : gd.length ≤ c2)
    (hw : (we == 0) = true) (hg : gunnyref38_Refusal.f ge = some false) (hk : k ≠ 6 ∧ k ≠ 7 ∧ k ≠ 8 ∧ k ≠ 9) (h3 : (we == ge) = true) (h4 : ((strOfNums wd).toList == (strOfNums gd).toList) = true) (h5 : (wn == gn) = false) :
    Calls Try.prog 9 #[.agg #[.int .i64 k, .int .i64 p, .int .i64 n, .int .u64 a, .slice A l c], .agg #[.int .i64 we, .int .i64 wn, .slice A1 wd.length c1], .agg #[.int .i64 ge, .int .i64 gn, .slice A2 gd.length c2]] w fun e w' => e = .returned (.bool false) ∧ Below w.heap.size w w' := by
  have hb := below_alloc (below_alloc (below_alloc (Below.refl _ w) (C25 k p n a A l c)) (C28 we wn A1 wd.length c1)) (C28 ge gn A2 gd.length c2)
  have q0 := blk_alloc (blk_alloc (blk_new w (C25 k p n a A l c)) (C28 we wn A1 wd.length c1)) (C28 ge gn A2 gd.length c2)
  have q1 := blk_alloc (blk_new (w.alloc (C25 k p n a A l c)) (C28 we wn A1 wd.length c1)) (C28 ge gn A2 gd.length c2)
  have q2 := blk_new ((w.alloc (C25 k p n a A l c)).alloc (C28 we wn A1 wd.length c1)) (C28 ge gn A2 gd.length c2)
  rw [World.size_alloc] at q1
  rw [World.size_alloc, World.size_alloc] at q2
  have H1 := Kd.C_below h1 hb
  have H2 := Kd.C_below h2 hb
  unfold C25 C28 at hb q0 q1 q2 H1 H2
  replace hb := Aside0.mk hb
  clear h1 h2
  replace hk := Aside0.mk hk
  go_enter Try.func9, Try.ntmps9
  go_upto_region 1 with fail
  generalize ((w.alloc (.cells #[.int .i64 k, .int .i64 p, .int .i64 n, .int .u64 a, .slice A l c] 25 (0, 0))).alloc (.cells #[.int .i64 we, .int .i64 wn, .slice A1 wd.length c1] 28 (0, 0))).alloc (.cells #[.int .i64 ge, .int .i64 gn, .slice A2 gd.length c2] 28 (0, 0)) = w1 at *
  have k0 : w1.cell? ⟨w.heap.size, 0, none⟩ = some (.int .i64 k) := (blk_cell q0 0).trans rfl
  have y0 : w1.cell? ⟨w.heap.size + 1, 0, none⟩ = some (.int .i64 we) := (blk_cell q1 0).trans rfl
  have y1 : w1.cell? ⟨w.heap.size + 1, 1, none⟩ = some (.int .i64 wn) := (blk_cell q1 1).trans rfl
  have y2 : w1.cell? ⟨w.heap.size + 1, 2, none⟩ = some (.slice A1 wd.length c1) := (blk_cell q1 2).trans rfl
  have z0 : w1.cell? ⟨w.heap.size + 1 + 1, 0, none⟩ = some (.int .i64 ge) := (blk_cell q2 0).trans rfl
  have z1 : w1.cell? ⟨w.heap.size + 1 + 1, 1, none⟩ = some (.int .i64 gn) := (blk_cell q2 1).trans rfl
  have z2 : w1.cell? ⟨w.heap.size + 1 + 1, 2, none⟩ = some (.slice A2 gd.length c2) := (blk_cell q2 2).trans rfl
  have hr1 := Aside0.mk (fun (W : World) (hW : Below w1.heap.size w1 W) => (⟨(blk_cell (blk_below q0 hW) 0).trans rfl, (blk_cell (blk_below q1 hW) 1).trans rfl, (blk_cell (blk_below q2 hW) 1).trans rfl, (blk_cell (blk_below q2 hW) 2).trans rfl⟩ : W.cell? ⟨w.heap.size, 0, none⟩ = some (.int .i64 k) ∧ W.cell? ⟨w.heap.size + 1, 1, none⟩ = some (.int .i64 wn) ∧ W.cell? ⟨w.heap.size + 1 + 1, 1, none⟩ = some (.int .i64 gn) ∧ W.cell? ⟨w.heap.size + 1 + 1, 2, none⟩ = some (.slice A2 gd.length c2)))
  have hr2 := Aside0.mk (fun (W : World) (hW : Below w1.heap.size w1 W) => (⟨(blk_cell (blk_below q1 hW) 0).trans rfl, (blk_cell (blk_below q1 hW) 2).trans rfl, (blk_cell (blk_below q2 hW) 0).trans rfl⟩ : W.cell? ⟨w.heap.size + 1, 0, none⟩ = some (.int .i64 we) ∧ W.cell? ⟨w.heap.size + 1, 2, none⟩ = some (.slice A1 wd.length c1) ∧ W.cell? ⟨w.heap.size + 1 + 1, 0, none⟩ = some (.int .i64 ge)))
  clear q0 q1 q2
  have hC := Aside0.mk (fun W => gunnyref38_Refusal.calls ge false W hg)
  have hs1 := fun (W : World) (hW : Below w1.heap.size w1 W) => Kd.C_string (P := Try.prog) (c := c1) Try.underlying23 Try.underlying5 Try.underlying9 (Kd.C_below H1 hW)
  have hs2 := fun (W : World) (hW : Below w1.heap.size w1 W) => Kd.C_string (P := Try.prog) (c := c2) Try.underlying23 Try.underlying5 Try.underlying9 (Kd.C_below H2 hW)
  clear H1 H2 hc1 hc2
  have e6 : (k == 6) = false := beq_eq_false_iff_ne.mpr (by have := hk.out; omega)
  have e7 : (k == 7) = false := beq_eq_false_iff_ne.mpr (by have := hk.out; omega)
  have e8 : (k == 8) = false := beq_eq_false_iff_ne.mpr (by have := hk.out; omega)
  have e9 : (k == 9) = false := beq_eq_false_iff_ne.mpr (by have := hk.out; omega)
  clear hk
  clear hg
  replace hs1 := Aside0.mk hs1
  replace hs2 := Aside0.mk hs2
  go_wp2_with (go_at_call 27; refine (hC.out _).mono ?_; rintro e w3 ⟨rfl, hd⟩; obtain ⟨g0, g1, g2, g3⟩ := hr1.out _ hd.below; obtain ⟨g4, g5, g6⟩ := hr2.out _ hd.below; have hs1' := hs1.out _ hd.below; have hs2' := hs2.out _ hd.below; replace hd := Aside0.mk hd.below)
  go_returns
  exact ⟨rfl, hb.out.trans (Below_low hd.out hb.out.size)⟩
end Go.Proofs.Ytgcgnpinhlmmjaa.Hand
