/- The document's clock, by value: Add, Remove, walked by hand. -/
import Derived.Test.YtmmnkanijdbgpaaD1
namespace Go.Proofs.Ytmmnkanijdbgpaa.Hand
set_option linter.unusedVariables false
set_option linter.unusedSimpArgs false
open Go.RowKit Go.Proofs.Ytmmnkanijdbgpaa.R Go.Proofs.YtmmnkanijdbgpaaW.PrintWords Go.Proofs.YtmmnkanijdbgpaaW.PrintLast Go.Proofs.YtmmnkanijdbgpaaW.PrintMore

def raddOk (P : List Int) (f p : Int) : Bool := decide (0 ≤ f ∧ f < 96 ∧ 0 ≤ p ∧ p < 68719476736) && decide (P.getD f.toNat 0 < 0)
def raddP (P : List Int) (f p : Int) : List Int := if raddOk P f p then P.set f.toNat p else P
def rremOk (P : List Int) (f : Int) : Bool := decide (0 ≤ f ∧ f < 96) && decide (0 ≤ P.getD f.toNat 0)
def rremP (P : List Int) (f : Int) : List Int := if rremOk P f then P.set f.toNat (-1) else P
theorem ints_ne (P : List Int) (hP : P.length = 97) : ¬ ints P = #[] := by
  intro e
  have := congrArg Array.size e
  rw [ints_size, hP] at this
  revert this
  decide
set_option maxHeartbeats 8000000 in
set_option maxRecDepth 100000 in
theorem radd_calls (P : List Int) (hP : P.length = 97) (f p : Int) (w : World) : Calls Try.prog 18 #[.agg (ints P), .int .i64 f, .int .i64 p] w fun e w' => e = .returned (.tuple #[.agg (ints (raddP P f p)), .bool (raddOk P f p)]) ∧ Below w.heap.size w w' := by
  obtain ⟨ok, hok⟩ : ∃ ok, ok = raddOk P f p := ⟨_, rfl⟩
  obtain ⟨R, hR⟩ : ∃ R, R = raddP P f p := ⟨_, rfl⟩
  have hRu : R = if ok then P.set f.toNat p else P := by rw [hR, hok]; rfl
  rw [← hok, ← hR]
  clear hR
  have hz := zv41
  have hne := zne
  have hp0 : PS (w.alloc (.cells (ints P) 41 (0, 0))) w.heap.size P := blk_new w _
  have hp1 : PS ((w.alloc (.cells (ints P) 41 (0, 0))).alloc (.cells (ints zer97) 41 (0, 0))) (w.heap.size + 1) zer97 := by
    have := blk_new (w.alloc (.cells (ints P) 41 (0, 0))) (.cells (ints zer97) 41 (0, 0))
    rw [World.size_alloc] at this
    exact this
  have hp0' : PS ((w.alloc (.cells (ints P) 41 (0, 0))).alloc (.cells (ints zer97) 41 (0, 0))) w.heap.size P := blk_alloc hp0 (.cells (ints zer97) 41 (0, 0))
  have hb := below_alloc (below_alloc (Below.refl _ w) (.cells (ints P) 41 (0, 0))) (.cells (ints zer97) 41 (0, 0))
  replace hok := Aside0.mk hok
  replace hRu := Aside0.mk hRu
  replace hp0' := Aside0.mk hp0'
  replace hp1 := Aside0.mk hp1
  replace hb := Aside0.mk hb
  replace hP := Aside0.mk hP
  clear hp0
  go_enter Try.func18, Try.ntmps18
  go_upto_region 1 with (fail)
  generalize (w.alloc (.cells (ints P) 41 (0, 0))).alloc (.cells (ints zer97) 41 (0, 0)) = w1 at hp0' hp1 hb ⊢
  clear hz hne
  by_cases h0 : f < 0
  · have eq : raddOk P f p = false := by unfold raddOk; rw [decide_eq_false (by omega)]; rfl
    have d0 : decide (f < 0) = true := decide_eq_true h0
    obtain rfl : ok = false := hok.out.trans eq
    obtain rfl : R = P := hRu.out
    clear eq hok hRu
    go_wp2_with (first | ((with_reducible refine gate_ld rfl ?_); refine wl_ld rfl _ rfl rfl hp0'.out hP.out ?_) | ((with_reducible refine gate_st rfl ?_); refine wl_st rfl _ _ rfl rfl rfl hp1.out lz97 hP.out ?_; intro w5 hp5 hf5; replace hp5 := Aside0.mk hp5; replace hf5 := Aside0.mk hf5))
    exact bodyPost_ret (results_cell2 rfl _ _ (w.heap.size + 1) R hP.out rfl hp5.out) rfl ⟨rfl, hb.out.trans (hf5.out.below hb.out.size (fun i e => by rw [e]; omega))⟩
  have d0 : decide (f < 0) = false := decide_eq_false h0
  obtain ⟨x, rfl⟩ : ∃ x : Nat, f = (x : Int) := ⟨f.toNat, by omega⟩
  by_cases h1 : 95 < x
  · have eq : raddOk P (x : Int) p = false := by unfold raddOk; rw [decide_eq_false (by omega)]; rfl
    have d1 : decide ((x : Int) > 95) = true := decide_eq_true (by omega)
    have d2 : decide ((95 : Int) < (x : Int)) = true := decide_eq_true (by omega)
    have d3 : decide (95 < x) = true := decide_eq_true h1
    obtain rfl : ok = false := hok.out.trans eq
    obtain rfl : R = P := hRu.out
    clear eq hok hRu
    go_wp2_with (first | ((with_reducible refine gate_ld rfl ?_); refine wl_ld rfl _ rfl rfl hp0'.out hP.out ?_) | ((with_reducible refine gate_st rfl ?_); refine wl_st rfl _ _ rfl rfl rfl hp1.out lz97 hP.out ?_; intro w5 hp5 hf5; replace hp5 := Aside0.mk hp5; replace hf5 := Aside0.mk hf5))
    exact bodyPost_ret (results_cell2 rfl _ _ (w.heap.size + 1) R hP.out rfl hp5.out) rfl ⟨rfl, hb.out.trans (hf5.out.below hb.out.size (fun i e => by rw [e]; omega))⟩
  have d1 : decide ((x : Int) > 95) = false := decide_eq_false (by omega)
  have d2 : decide ((95 : Int) < (x : Int)) = false := decide_eq_false (by omega)
  have d3 : decide (95 < x) = false := decide_eq_false h1
  by_cases h2 : p < 0
  · have eq : raddOk P (x : Int) p = false := by unfold raddOk; rw [decide_eq_false (by omega)]; rfl
    have d4 : decide (p < 0) = true := decide_eq_true h2
    obtain rfl : ok = false := hok.out.trans eq
    obtain rfl : R = P := hRu.out
    clear eq hok hRu
    go_wp2_with (first | ((with_reducible refine gate_ld rfl ?_); refine wl_ld rfl _ rfl rfl hp0'.out hP.out ?_) | ((with_reducible refine gate_st rfl ?_); refine wl_st rfl _ _ rfl rfl rfl hp1.out lz97 hP.out ?_; intro w5 hp5 hf5; replace hp5 := Aside0.mk hp5; replace hf5 := Aside0.mk hf5))
    exact bodyPost_ret (results_cell2 rfl _ _ (w.heap.size + 1) R hP.out rfl hp5.out) rfl ⟨rfl, hb.out.trans (hf5.out.below hb.out.size (fun i e => by rw [e]; omega))⟩
  have d4 : decide (p < 0) = false := decide_eq_false h2
  obtain ⟨y, rfl⟩ : ∃ y : Nat, p = (y : Int) := ⟨p.toNat, by omega⟩
  by_cases h3 : 68719476736 ≤ y
  · have eq : raddOk P (x : Int) (y : Int) = false := by unfold raddOk; rw [decide_eq_false (by omega)]; rfl
    have d5 : decide ((y : Int) ≥ 68719476736) = true := decide_eq_true (by omega)
    have d6 : decide (68719476736 ≤ (y : Int)) = true := decide_eq_true (by omega)
    have d7 : decide (68719476736 ≤ y) = true := decide_eq_true h3
    replace h3 := Aside0.mk h3
    obtain rfl : ok = false := hok.out.trans eq
    obtain rfl : R = P := hRu.out
    clear eq hok hRu
    go_wp2_with (first | ((with_reducible refine gate_ld rfl ?_); refine wl_ld rfl _ rfl rfl hp0'.out hP.out ?_) | ((with_reducible refine gate_st rfl ?_); refine wl_st rfl _ _ rfl rfl rfl hp1.out lz97 hP.out ?_; intro w5 hp5 hf5; replace hp5 := Aside0.mk hp5; replace hf5 := Aside0.mk hf5))
    exact bodyPost_ret (results_cell2 rfl _ _ (w.heap.size + 1) R hP.out rfl hp5.out) rfl ⟨rfl, hb.out.trans (hf5.out.below hb.out.size (fun i e => by rw [e]; omega))⟩
  have d5 : decide ((y : Int) ≥ 68719476736) = false := decide_eq_false (by omega)
  have d6 : decide (68719476736 ≤ (y : Int)) = false := decide_eq_false (by omega)
  have d7 : decide (68719476736 ≤ y) = false := decide_eq_false h3
  have eq0 : raddOk P (x : Int) (y : Int) = decide (P.getD x 0 < 0) := by unfold raddOk; rw [decide_eq_true (by omega), Bool.true_and, Int.toNat_natCast]
  have x0 : (0 : Int) ≤ (x : Int) := by omega
  have x1 : (x : Int) < 96 := by omega
  have x2 : x < 96 := by omega
  replace h3 := Aside0.mk h3
  obtain ⟨v, hv⟩ : ∃ v, v = P.getD x 0 := ⟨_, rfl⟩
  rw [← hv] at eq0
  by_cases h4 : 0 ≤ v
  · have eq : raddOk P (x : Int) (y : Int) = false := by rw [eq0]; exact decide_eq_false (by omega)
    have kx := ints_cell hp0'.out x (by have := hP.out; omega)
    rw [← hv] at kx
    have d8 : decide (v ≥ 0) = true := decide_eq_true h4
    have d9 : decide (0 ≤ v) = true := decide_eq_true h4
    replace hv := Aside0.mk hv
    clear eq0
    obtain rfl : ok = false := hok.out.trans eq
    obtain rfl : R = P := hRu.out
    clear eq hok hRu
    go_wp2_with (first | ((with_reducible refine gate_ld rfl ?_); refine wl_ld rfl _ rfl rfl hp0'.out hP.out ?_) | ((with_reducible refine gate_st rfl ?_); refine wl_st rfl _ _ rfl rfl rfl hp1.out lz97 hP.out ?_; intro w5 hp5 hf5; replace hp5 := Aside0.mk hp5; replace hf5 := Aside0.mk hf5))
    exact bodyPost_ret (results_cell2 rfl _ _ (w.heap.size + 1) R hP.out rfl hp5.out) rfl ⟨rfl, hb.out.trans (hf5.out.below hb.out.size (fun i e => by rw [e]; omega))⟩
  · have eq : raddOk P (x : Int) (y : Int) = true := by rw [eq0]; exact decide_eq_true (by omega)
    have d8 : decide (v ≥ 0) = false := decide_eq_false h4
    have d9 : decide (0 ≤ v) = false := decide_eq_false h4
    clear eq0
    obtain rfl : ok = true := hok.out.trans eq
    obtain rfl : R = P.set x (y : Int) := hRu.out
    clear eq hok hRu
    have kx := ints_cell hp0'.out x (by have := hP.out; omega)
    have fx := blk_frozen hp0'.out x
    rw [← hv] at kx
    have hset : PS (w1.setCell ⟨w.heap.size, x, none⟩ (.int .i64 (y : Int))) w.heap.size (P.set x (y : Int)) := ints_set hp0'.out x (y : Int)
    have hfar := Far.setCell (S := fun i => i = w.heap.size) (Far.refl _ w1) (p := ⟨w.heap.size, x, none⟩) (.inl rfl) (.int .i64 (y : Int))
    have hp1' : PS (w1.setCell ⟨w.heap.size, x, none⟩ (.int .i64 (y : Int))) (w.heap.size + 1) zer97 := hfar.blk hp1.out (fun e => by omega)
    have hl2 : (P.set x (y : Int)).length = 97 := by rw [List.length_set]; exact hP.out
    obtain ⟨P2, hP2⟩ : ∃ P2, P2 = P.set x (y : Int) := ⟨_, rfl⟩
    rw [← hP2] at hset hl2
    replace hP2 := Aside0.mk hP2
    replace hset := Aside0.mk hset
    replace hfar := Aside0.mk hfar
    replace hp1' := Aside0.mk hp1'
    replace hl2 := Aside0.mk hl2
    replace hv := Aside0.mk hv
    go_wp2_with (first | ((with_reducible refine gate_ld rfl ?_); refine wl_ld rfl _ rfl rfl hset.out hl2.out ?_) | ((with_reducible refine gate_st rfl ?_); refine wl_st rfl _ _ rfl rfl rfl hp1'.out lz97 hl2.out ?_; intro w5 hp5 hf5; replace hp5 := Aside0.mk hp5; replace hf5 := Aside0.mk hf5))
    exact bodyPost_ret (results_cell2 rfl _ _ (w.heap.size + 1) P2 hl2.out rfl hp5.out) rfl ⟨by rw [hP2.out]; rfl, (hb.out.trans (hfar.out.below hb.out.size (fun i e => by have e' : i = w.heap.size := e; omega))).trans (hf5.out.below (by have := hb.out.size; have := hfar.out.size; omega) (fun i e => by rw [e]; omega))⟩
set_option maxHeartbeats 8000000 in
set_option maxRecDepth 100000 in
theorem rrem_calls (P : List Int) (hP : P.length = 97) (f : Int) (w : World) : Calls Try.prog 19 #[.agg (ints P), .int .i64 f] w fun e w' => e = .returned (.tuple #[.agg (ints (rremP P f)), .bool (rremOk P f)]) ∧ Below w.heap.size w w' := by
  obtain ⟨ok, hok⟩ : ∃ ok, ok = rremOk P f := ⟨_, rfl⟩
  obtain ⟨R, hR⟩ : ∃ R, R = rremP P f := ⟨_, rfl⟩
  have hRu : R = if ok then P.set f.toNat (-1) else P := by rw [hR, hok]; rfl
  rw [← hok, ← hR]
  clear hR
  have hz := zv41
  have hne := zne
  have hp0 : PS (w.alloc (.cells (ints P) 41 (0, 0))) w.heap.size P := blk_new w _
  have hp1 : PS ((w.alloc (.cells (ints P) 41 (0, 0))).alloc (.cells (ints zer97) 41 (0, 0))) (w.heap.size + 1) zer97 := by
    have := blk_new (w.alloc (.cells (ints P) 41 (0, 0))) (.cells (ints zer97) 41 (0, 0))
    rw [World.size_alloc] at this
    exact this
  have hp0' : PS ((w.alloc (.cells (ints P) 41 (0, 0))).alloc (.cells (ints zer97) 41 (0, 0))) w.heap.size P := blk_alloc hp0 (.cells (ints zer97) 41 (0, 0))
  have hb := below_alloc (below_alloc (Below.refl _ w) (.cells (ints P) 41 (0, 0))) (.cells (ints zer97) 41 (0, 0))
  replace hok := Aside0.mk hok
  replace hRu := Aside0.mk hRu
  replace hp0' := Aside0.mk hp0'
  replace hp1 := Aside0.mk hp1
  replace hb := Aside0.mk hb
  replace hP := Aside0.mk hP
  clear hp0
  go_enter Try.func19, Try.ntmps19
  go_upto_region 1 with (fail)
  generalize (w.alloc (.cells (ints P) 41 (0, 0))).alloc (.cells (ints zer97) 41 (0, 0)) = w1 at hp0' hp1 hb ⊢
  clear hz hne
  by_cases h0 : f < 0
  · have eq : rremOk P f = false := by unfold rremOk; rw [decide_eq_false (by omega)]; rfl
    have d0 : decide (f < 0) = true := decide_eq_true h0
    obtain rfl : ok = false := hok.out.trans eq
    obtain rfl : R = P := hRu.out
    clear eq hok hRu
    go_wp2_with (first | ((with_reducible refine gate_ld rfl ?_); refine wl_ld rfl _ rfl rfl hp0'.out hP.out ?_) | ((with_reducible refine gate_st rfl ?_); refine wl_st rfl _ _ rfl rfl rfl hp1.out lz97 hP.out ?_; intro w5 hp5 hf5; replace hp5 := Aside0.mk hp5; replace hf5 := Aside0.mk hf5))
    exact bodyPost_ret (results_cell2 rfl _ _ (w.heap.size + 1) R hP.out rfl hp5.out) rfl ⟨rfl, hb.out.trans (hf5.out.below hb.out.size (fun i e => by rw [e]; omega))⟩
  have d0 : decide (f < 0) = false := decide_eq_false h0
  obtain ⟨x, rfl⟩ : ∃ x : Nat, f = (x : Int) := ⟨f.toNat, by omega⟩
  by_cases h1 : 95 < x
  · have eq : rremOk P (x : Int) = false := by unfold rremOk; rw [decide_eq_false (by omega)]; rfl
    have d1 : decide ((x : Int) > 95) = true := decide_eq_true (by omega)
    have d2 : decide ((95 : Int) < (x : Int)) = true := decide_eq_true (by omega)
    have d3 : decide (95 < x) = true := decide_eq_true h1
    obtain rfl : ok = false := hok.out.trans eq
    obtain rfl : R = P := hRu.out
    clear eq hok hRu
    go_wp2_with (first | ((with_reducible refine gate_ld rfl ?_); refine wl_ld rfl _ rfl rfl hp0'.out hP.out ?_) | ((with_reducible refine gate_st rfl ?_); refine wl_st rfl _ _ rfl rfl rfl hp1.out lz97 hP.out ?_; intro w5 hp5 hf5; replace hp5 := Aside0.mk hp5; replace hf5 := Aside0.mk hf5))
    exact bodyPost_ret (results_cell2 rfl _ _ (w.heap.size + 1) R hP.out rfl hp5.out) rfl ⟨rfl, hb.out.trans (hf5.out.below hb.out.size (fun i e => by rw [e]; omega))⟩
  have d1 : decide ((x : Int) > 95) = false := decide_eq_false (by omega)
  have d2 : decide ((95 : Int) < (x : Int)) = false := decide_eq_false (by omega)
  have d3 : decide (95 < x) = false := decide_eq_false h1
  have eq0 : rremOk P (x : Int) = decide (0 ≤ P.getD x 0) := by unfold rremOk; rw [decide_eq_true (by omega), Bool.true_and, Int.toNat_natCast]
  have x0 : (0 : Int) ≤ (x : Int) := by omega
  have x1 : (x : Int) < 96 := by omega
  have x2 : x < 96 := by omega
  obtain ⟨v, hv⟩ : ∃ v, v = P.getD x 0 := ⟨_, rfl⟩
  rw [← hv] at eq0
  by_cases h4 : v < 0
  · have eq : rremOk P (x : Int) = false := by rw [eq0]; exact decide_eq_false (by omega)
    have kx := ints_cell hp0'.out x (by have := hP.out; omega)
    rw [← hv] at kx
    have d8 : decide (v < 0) = true := decide_eq_true h4
    replace hv := Aside0.mk hv
    clear eq0
    obtain rfl : ok = false := hok.out.trans eq
    obtain rfl : R = P := hRu.out
    clear eq hok hRu
    go_wp2_with (first | ((with_reducible refine gate_ld rfl ?_); refine wl_ld rfl _ rfl rfl hp0'.out hP.out ?_) | ((with_reducible refine gate_st rfl ?_); refine wl_st rfl _ _ rfl rfl rfl hp1.out lz97 hP.out ?_; intro w5 hp5 hf5; replace hp5 := Aside0.mk hp5; replace hf5 := Aside0.mk hf5))
    exact bodyPost_ret (results_cell2 rfl _ _ (w.heap.size + 1) R hP.out rfl hp5.out) rfl ⟨rfl, hb.out.trans (hf5.out.below hb.out.size (fun i e => by rw [e]; omega))⟩
  · have eq : rremOk P (x : Int) = true := by rw [eq0]; exact decide_eq_true (by omega)
    have d8 : decide (v < 0) = false := decide_eq_false h4
    clear eq0
    obtain rfl : ok = true := hok.out.trans eq
    obtain rfl : R = P.set x (-1) := hRu.out
    clear eq hok hRu
    have kx := ints_cell hp0'.out x (by have := hP.out; omega)
    have fx := blk_frozen hp0'.out x
    rw [← hv] at kx
    have hset : PS (w1.setCell ⟨w.heap.size, x, none⟩ (.int .i64 (-1))) w.heap.size (P.set x (-1)) := ints_set hp0'.out x (-1)
    have hfar := Far.setCell (S := fun i => i = w.heap.size) (Far.refl _ w1) (p := ⟨w.heap.size, x, none⟩) (.inl rfl) (.int .i64 (-1))
    have hp1' : PS (w1.setCell ⟨w.heap.size, x, none⟩ (.int .i64 (-1))) (w.heap.size + 1) zer97 := hfar.blk hp1.out (fun e => by omega)
    have hl2 : (P.set x (-1)).length = 97 := by rw [List.length_set]; exact hP.out
    obtain ⟨P2, hP2⟩ : ∃ P2, P2 = P.set x (-1) := ⟨_, rfl⟩
    rw [← hP2] at hset hl2
    replace hP2 := Aside0.mk hP2
    replace hset := Aside0.mk hset
    replace hfar := Aside0.mk hfar
    replace hp1' := Aside0.mk hp1'
    replace hl2 := Aside0.mk hl2
    replace hv := Aside0.mk hv
    go_wp2_with (first | ((with_reducible refine gate_ld rfl ?_); refine wl_ld rfl _ rfl rfl hset.out hl2.out ?_) | ((with_reducible refine gate_st rfl ?_); refine wl_st rfl _ _ rfl rfl rfl hp1'.out lz97 hl2.out ?_; intro w5 hp5 hf5; replace hp5 := Aside0.mk hp5; replace hf5 := Aside0.mk hf5))
    exact bodyPost_ret (results_cell2 rfl _ _ (w.heap.size + 1) P2 hl2.out rfl hp5.out) rfl ⟨by rw [hP2.out]; rfl, (hb.out.trans (hfar.out.below hb.out.size (fun i e => by have e' : i = w.heap.size := e; omega))).trans (hf5.out.below (by have := hb.out.size; have := hfar.out.size; omega) (fun i e => by rw [e]; omega))⟩

end Go.Proofs.Ytmmnkanijdbgpaa.Hand
