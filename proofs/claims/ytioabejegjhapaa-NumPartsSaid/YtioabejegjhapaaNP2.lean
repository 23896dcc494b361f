/- gunnyref01.Cut and Set, walked, bit by bit. -/
import Derived.Test.YtioabejegjhapaaNP1
import Derived.KernelRfl
namespace Go.Proofs.Ytioabejegjhapaa.NP
set_option linter.unusedVariables false
set_option linter.unusedSimpArgs false
open Go.RowKit Go.Proofs.Ytioabejegjhapaa.R Go.Proofs.Ytioabejegjhapaa.Bits Go.Proofs.Ytioabejegjhapaa.Num Go.Proofs.Ytioabejegjhapaa.RefBit Go.Proofs.Ytioabejegjhapaa.Hand Go.Proofs.YtioabejegjhapaaW.PrintWords Go.Proofs.YtioabejegjhapaaW.PrintLast Go.Proofs.YtioabejegjhapaaW.PrintMore

def inP (at_ wide : Int) (j : Nat) : Bool := decide (0 ≤ at_ ∧ at_ < 64 ∧ 1 ≤ wide ∧ at_ ≤ (j : Int) ∧ (j : Int) - at_ < wide)
theorem in_some (at_ wide : Int) (j : Nat) (hj : j < 64) : gunnyref01_In.f at_ wide (j : Int) = some (inP at_ wide j) := by
  unfold gunnyref01_In.f inP
  by_cases h1 : at_ ≥ 0
  · by_cases h2 : at_ < 64
    · by_cases h3 : wide ≥ 1
      · by_cases h4 : (j : Int) ≥ at_
        · have e : wrap64 ((j : Int) - at_) = (j : Int) - at_ := by unfold wrap64; omega
          rw [if_pos h1, if_pos h2, if_pos h3, if_pos h4, e]
          refine congrArg some ?_
          rw [decide_eq_decide]
          clear e
          omega
        · rw [if_pos h1, if_pos h2, if_pos h3, if_neg h4, decide_eq_false (by omega)]
      · rw [if_pos h1, if_pos h2, if_neg h3, decide_eq_false (by omega)]
    · rw [if_pos h1, if_neg h2, decide_eq_false (by omega)]
  · rw [if_neg h1, decide_eq_false (by omega)]

theorem bit_is (k x p : Nat) (hx : x < 18446744073709551616) (hp : p < 64) (hk : 65 < k) : gunnyref01_Bit.f k (x : Int) (p : Int) = some (x.testBit p) := by
  rw [rbit k x p hx hp hk]
  refine congrArg some ?_
  rw [Nat.testBit_eq_decide_div_mod_eq, Bool.eq_iff_iff, beq_iff_eq, decide_eq_true_iff]

def cutB (x : Nat) (at_ wide : Int) (i : Nat) : List Bool := (List.range 64).map fun j : Nat => decide ((j : Int) + at_ < (i : Int)) && inP at_ wide ((j : Int) + at_).toNat && x.testBit ((j : Int) + at_).toNat
def setB (x n : Nat) (at_ wide : Int) (i : Nat) : List Bool := (List.range 64).map fun j : Nat => decide (j < i) && (if inP at_ wide j = true then n.testBit ((j : Int) - at_).toNat else x.testBit j)
theorem cutB_len (x : Nat) (at_ wide : Int) (i : Nat) : (cutB x at_ wide i).length = 64 := by unfold cutB; simp
theorem setB_len (x n : Nat) (at_ wide : Int) (i : Nat) : (setB x n at_ wide i).length = 64 := by unfold setB; simp
theorem cutB_get (x : Nat) (at_ wide : Int) (i j : Nat) : (cutB x at_ wide i)[j]? = if j < 64 then some (decide ((j : Int) + at_ < (i : Int)) && inP at_ wide ((j : Int) + at_).toNat && x.testBit ((j : Int) + at_).toNat) else none := by
  unfold cutB
  by_cases h : j < 64
  · rw [if_pos h]; simp [h]
  · rw [if_neg h, List.getElem?_eq_none (by simp; omega)]
theorem setB_get (x n : Nat) (at_ wide : Int) (i j : Nat) : (setB x n at_ wide i)[j]? = if j < 64 then some (decide (j < i) && (if inP at_ wide j = true then n.testBit ((j : Int) - at_).toNat else x.testBit j)) else none := by
  unfold setB
  by_cases h : j < 64
  · rw [if_pos h]; simp [h]
  · rw [if_neg h, List.getElem?_eq_none (by simp; omega)]
theorem cutB_start (x : Nat) (at_ wide : Int) : cutB x at_ wide 0 = List.replicate 64 false := by
  apply List.ext_getElem?
  intro j
  rw [cutB_get, List.getElem?_replicate]
  by_cases h : j < 64
  · rw [if_pos h, if_pos h]
    refine congrArg some ?_
    by_cases h2 : (j : Int) + at_ < ((0 : Nat) : Int)
    · have : inP at_ wide ((j : Int) + at_).toNat = false := by unfold inP; rw [decide_eq_false (by omega)]
      rw [this]; simp
    · rw [decide_eq_false h2]; simp
  · rw [if_neg h, if_neg h]
theorem setB_start (x n : Nat) (at_ wide : Int) : setB x n at_ wide 0 = List.replicate 64 false := by
  apply List.ext_getElem?
  intro j
  rw [setB_get, List.getElem?_replicate]
  by_cases h : j < 64
  · rw [if_pos h, if_pos h]; simp
  · rw [if_neg h, if_neg h]
theorem cutB_skip (x : Nat) (at_ wide : Int) (i : Nat) (h : inP at_ wide i = false) : cutB x at_ wide (i + 1) = cutB x at_ wide i := by
  apply List.ext_getElem?
  intro j
  rw [cutB_get, cutB_get]
  by_cases hj : j < 64
  · rw [if_pos hj, if_pos hj]
    refine congrArg some ?_
    by_cases e : (j : Int) + at_ = (i : Int)
    · have : ((j : Int) + at_).toNat = i := by omega
      rw [this, h]; simp
    · have : decide ((j : Int) + at_ < ((i + 1 : Nat) : Int)) = decide ((j : Int) + at_ < (i : Int)) := by rw [decide_eq_decide]; omega
      rw [this]
  · rw [if_neg hj, if_neg hj]
theorem cutB_step (x : Nat) (at_ wide : Int) (i q : Nat) (hi : i < 64) (h : inP at_ wide i = true) (hq : (q : Int) = (i : Int) - at_) : (cutB x at_ wide i).set q (x.testBit i) = cutB x at_ wide (i + 1) := by
  have hin := h
  unfold inP at hin
  have hp := of_decide_eq_true hin
  apply List.ext_getElem?
  intro j
  by_cases e : j = q
  · subst e
    rw [List.getElem?_set_self (by rw [cutB_len]; omega), cutB_get, if_pos (by omega)]
    have : ((j : Int) + at_).toNat = i := by omega
    rw [this, h, decide_eq_true (by omega)]
    simp
  · rw [List.getElem?_set_ne (by omega), cutB_get, cutB_get]
    by_cases hj : j < 64
    · rw [if_pos hj, if_pos hj]
      have : decide ((j : Int) + at_ < ((i + 1 : Nat) : Int)) = decide ((j : Int) + at_ < (i : Int)) := by rw [decide_eq_decide]; omega
      rw [this]
    · rw [if_neg hj, if_neg hj]
theorem setB_step (x n : Nat) (at_ wide : Int) (i : Nat) (hi : i < 64) (v : Bool) (hv : v = if inP at_ wide i = true then n.testBit ((i : Int) - at_).toNat else x.testBit i) : (setB x n at_ wide i).set i v = setB x n at_ wide (i + 1) := by
  apply List.ext_getElem?
  intro j
  by_cases e : j = i
  · subst e
    rw [List.getElem?_set_self (by rw [setB_len]; omega), setB_get, if_pos hi, decide_eq_true (by omega), hv]
    simp
  · rw [List.getElem?_set_ne (by omega), setB_get, setB_get]
    by_cases hj : j < 64
    · rw [if_pos hj, if_pos hj]
      have : decide (j < i + 1) = decide (j < i) := by rw [decide_eq_decide]; omega
      rw [this]
    · rw [if_neg hj, if_neg hj]

theorem bl_false : bl (List.replicate 64 false) = #[.bool false, .bool false, .bool false, .bool false, .bool false, .bool false, .bool false, .bool false, .bool false, .bool false, .bool false, .bool false, .bool false, .bool false, .bool false, .bool false, .bool false, .bool false, .bool false, .bool false, .bool false, .bool false, .bool false, .bool false, .bool false, .bool false, .bool false, .bool false, .bool false, .bool false, .bool false, .bool false, .bool false, .bool false, .bool false, .bool false, .bool false, .bool false, .bool false, .bool false, .bool false, .bool false, .bool false, .bool false, .bool false, .bool false, .bool false, .bool false, .bool false, .bool false, .bool false, .bool false, .bool false, .bool false, .bool false, .bool false, .bool false, .bool false, .bool false, .bool false, .bool false, .bool false, .bool false, .bool false] := by rfl

set_option maxHeartbeats 8000000 in
set_option maxRecDepth 100000 in
theorem rcut_calls (x : Nat) (hx : x < 18446744073709551616) (at_ wide : Int) (w : World) :
    Calls Try.prog 13 #[.int .u64 (x : Int), .int .i64 at_, .int .i64 wide] w fun e w' => e = .returned (.int .u64 ((ofB (cutB x at_ wide 64) : Nat) : Int)) ∧ Below w.heap.size w w' := by
  replace hx := Aside0.mk hx
  go_enter Try.func13, Try.ntmps13
  go_wp2
  rw [← bl_false]
  go_loopg [8] 64 (fun kq v8 w' => ∃ (i : Nat), v8 = .int .i64 (i : Int) ∧ Aside0 (i + kq = 64) ∧ Aside0 (w'.heap[w.heap.size]? = some (.cells (bl (cutB x at_ wide i)) 46 (0, 0))) ∧ Aside0 (Far (fun x => x = w.heap.size) w w'))
  case atStart => exact ⟨0, rfl, ⟨by omega⟩, ⟨by rw [cutB_start]; exact blk_new w _⟩, ⟨Far.alloc (Far.refl _ w) _⟩⟩
  case round =>
    obtain ⟨i, rfl, HK, HB, HF⟩ := hrel
    cases gk with
    | zero =>
      obtain rfl : i = 64 := by have := HK.out; omega
      have d1 : decide (((64 : Nat) : Int) < 64) = false := decide_eq_false (by omega)
      have OF := fun W => of_calls (cutB x at_ wide 64) (cutB_len x at_ wide 64) W
      obtain ⟨C, hC⟩ : ∃ C, C = bl (cutB x at_ wide 64) := ⟨_, rfl⟩
      rw [← hC] at HB
      simp only [← hC] at OF
      have csz : C.size = 64 := by rw [hC]; unfold bl; simp [cutB_len x at_ wide 64]
      have hsz : (Try.prog.info? 46).map (·.size) = some C.size := by rw [csz]; kernel_rfl
      replace OF := Aside0.mk OF
      replace hC := Aside0.mk hC
      replace csz := Aside0.mk csz
      replace hsz := Aside0.mk hsz
      go_wp2_with (first | ((with_reducible refine gate_dst (N := 24) rfl ?_); refine wpList_load_row rfl 46 _ rfl w.heap.size rfl 46 C (0, 0) _ HB.out Try.underlying46 rfl hsz.out ?_) | (go_at_call 25; refine (OF.out _).mono ?_; rintro e w3 ⟨rfl, b3⟩; replace b3 := Aside0.mk b3))
      go_returns
      exact ⟨rfl, (HF.out.then_ (Far.of_below b3.out)).below (Nat.le_refl _) (fun i hi => by omega)⟩
    | succ k1 =>
      have hi : i < 64 := by have := HK.out; omega
      have d1 : decide ((i : Int) < 64) = true := decide_eq_true (by omega)
      have d1n : decide (i < 64) = true := decide_eq_true (by omega)
      have d0 : decide (0 ≤ (i : Int)) = true := decide_eq_true (by omega)
      have e1 := Aside0.mk (w64s i (by omega))
      obtain ⟨r, er⟩ : ∃ r, inP at_ wide i = r := ⟨_, rfl⟩
      have CI := fun W => gunnyref01_In.calls at_ wide (i : Int) r W (by rw [← er]; exact in_some at_ wide i hi)
      have CB := fun W => gunnyref01_Bit.calls 100 (x : Int) (i : Int) (x.testBit i) W (bit_is 100 x i hx.out hi (by omega))
      replace CI := Aside0.mk CI
      replace CB := Aside0.mk CB
      cases r with
      | false =>
        have sk := Aside0.mk (cutB_skip x at_ wide i er)
        replace er := Aside0.mk er
        go_wp2_with (first | (go_at_call 24; refine (CI.out _).mono ?_; rintro e w2 ⟨rfl, ⟨n2, rfl⟩⟩) | (go_at_call 16; refine (CB.out _).mono ?_; rintro e w3 ⟨rfl, ⟨n3, rfl⟩⟩))
        go_roundg k1
        case measure => have := HK.out; omega
        case rel => exact ⟨i + 1, by first | rfl | exact congrArg (Value.int .i64) e1.out | simp, ⟨by have := HK.out; omega⟩, ⟨by rw [sk.out]; exact blkd HB.out⟩, ⟨HF.out.drewN _⟩⟩
      | true =>
        have hin := er
        unfold inP at hin
        have hp := of_decide_eq_true hin
        obtain ⟨q, hq⟩ : ∃ q : Nat, (q : Int) = (i : Int) - at_ := ⟨((i : Int) - at_).toNat, by omega⟩
        have q64 : q < 64 := by omega
        have st := cutB_step x at_ wide i q hi er hq
        have fz : ∀ n, (wr.drewN n).frozen? ⟨w.heap.size, q, none⟩ = false := fun n => blk_frozen (blk_drewN HB.out n) _
        obtain ⟨pv, hpv⟩ : ∃ v, (cutB x at_ wide i)[q]? = some v := ⟨_, List.getElem?_eq_getElem (by rw [cutB_len]; omega)⟩
        have cpv : ∀ n, (wr.drewN n).cell? ⟨w.heap.size, q, none⟩ = some (.bool pv) := fun n => bl_cell (blk_drewN HB.out n) hpv
        have dq0 : decide (0 ≤ (q : Int)) = true := decide_eq_true (by omega)
        have dq1 : decide ((q : Int) < 64) = true := decide_eq_true (by omega)
        have dq2 : decide (q < 64) = true := decide_eq_true q64
        have eq' : wrap64 ((i : Int) - at_) = (q : Int) := by unfold wrap64; omega
        replace st := Aside0.mk st
        replace hq := Aside0.mk hq
        replace hp := Aside0.mk hp
        replace er := Aside0.mk er
        replace hpv := Aside0.mk hpv
        clear hin
        go_wp2_with (first | (go_at_call 24; refine (CI.out _).mono ?_; rintro e w2 ⟨rfl, ⟨n2, rfl⟩⟩) | (go_at_call 16; refine (CB.out _).mono ?_; rintro e w3 ⟨rfl, ⟨n3, rfl⟩⟩))
        go_roundg k1
        case measure => have := HK.out; omega
        case rel => exact ⟨i + 1, by first | rfl | exact congrArg (Value.int .i64) e1.out | simp, ⟨by have := HK.out; omega⟩, ⟨by rw [← st.out]; exact bl_set (blkd HB.out) _ _⟩, ⟨by refine HF.out.then_ ?_; repeat (with_reducible first | exact Far.refl _ _ | refine Far.set1 ?_ _ _ | refine Far.drewN ?_ _)⟩⟩

set_option maxHeartbeats 8000000 in
set_option maxRecDepth 100000 in
theorem rset_calls (x : Nat) (hx : x < 18446744073709551616) (at_ wide : Int) (y : Nat) (hy : y < 18446744073709551616) (w : World) :
    Calls Try.prog 11 #[.int .u64 (x : Int), .int .i64 at_, .int .i64 wide, .int .u64 (y : Int)] w fun e w' => e = .returned (.int .u64 ((ofB (setB x y at_ wide 64) : Nat) : Int)) ∧ Below w.heap.size w w' := by
  replace hx := Aside0.mk hx
  replace hy := Aside0.mk hy
  go_enter Try.func11, Try.ntmps11
  go_wp2
  rw [← bl_false]
  go_loopg [10] 64 (fun kq v9 w' => ∃ (i : Nat), v9 = .int .i64 (i : Int) ∧ Aside0 (i + kq = 64) ∧ Aside0 (w'.heap[w.heap.size]? = some (.cells (bl (setB x y at_ wide i)) 46 (0, 0))) ∧ Aside0 (Far (fun x => x = w.heap.size) w w'))
  case atStart => exact ⟨0, rfl, ⟨by omega⟩, ⟨by rw [setB_start]; exact blk_new w _⟩, ⟨Far.alloc (Far.refl _ w) _⟩⟩
  case round =>
    obtain ⟨i, rfl, HK, HB, HF⟩ := hrel
    cases gk with
    | zero =>
      obtain rfl : i = 64 := by have := HK.out; omega
      have d1 : decide (((64 : Nat) : Int) < 64) = false := decide_eq_false (by omega)
      have OF := fun W => of_calls (setB x y at_ wide 64) (setB_len x y at_ wide 64) W
      obtain ⟨C, hC⟩ : ∃ C, C = bl (setB x y at_ wide 64) := ⟨_, rfl⟩
      rw [← hC] at HB
      simp only [← hC] at OF
      have csz : C.size = 64 := by rw [hC]; unfold bl; simp [setB_len x y at_ wide 64]
      have hsz : (Try.prog.info? 46).map (·.size) = some C.size := by rw [csz]; kernel_rfl
      replace OF := Aside0.mk OF
      replace hC := Aside0.mk hC
      replace csz := Aside0.mk csz
      replace hsz := Aside0.mk hsz
      go_wp2_with (first | ((with_reducible refine gate_dst (N := 31) rfl ?_); refine wpList_load_row rfl 46 _ rfl w.heap.size rfl 46 C (0, 0) _ HB.out Try.underlying46 rfl hsz.out ?_) | (go_at_call 25; refine (OF.out _).mono ?_; rintro e w3 ⟨rfl, b3⟩; replace b3 := Aside0.mk b3))
      go_returns
      exact ⟨rfl, (HF.out.then_ (Far.of_below b3.out)).below (Nat.le_refl _) (fun i hi => by omega)⟩
    | succ k1 =>
      have hi : i < 64 := by have := HK.out; omega
      have d1 : decide ((i : Int) < 64) = true := decide_eq_true (by omega)
      have d1n : decide (i < 64) = true := decide_eq_true (by omega)
      have d0 : decide (0 ≤ (i : Int)) = true := decide_eq_true (by omega)
      have e1 := Aside0.mk (w64s i (by omega))
      obtain ⟨r, er⟩ : ∃ r, inP at_ wide i = r := ⟨_, rfl⟩
      have CI := fun W => gunnyref01_In.calls at_ wide (i : Int) r W (by rw [← er]; exact in_some at_ wide i hi)
      have CB := fun W => gunnyref01_Bit.calls 100 (x : Int) (i : Int) (x.testBit i) W (bit_is 100 x i hx.out hi (by omega))
      replace CI := Aside0.mk CI
      replace CB := Aside0.mk CB
      obtain ⟨pv, hpv⟩ : ∃ v, (setB x y at_ wide i)[i]? = some v := ⟨_, List.getElem?_eq_getElem (by rw [setB_len]; omega)⟩
      have cpv : ∀ n, (wr.drewN n).cell? ⟨w.heap.size, i, none⟩ = some (.bool pv) := fun n => bl_cell (blk_drewN HB.out n) hpv
      have fz : ∀ n, (wr.drewN n).frozen? ⟨w.heap.size, i, none⟩ = false := fun n => blk_frozen (blk_drewN HB.out n) _
      have hS : ∀ n b, ((wr.drewN n).setCell ⟨w.heap.size, i, none⟩ (.bool b)).heap[w.heap.size]? = some (.cells (bl ((setB x y at_ wide i).set i b)) 46 (0, 0)) := fun n b => bl_set (blk_drewN HB.out n) i b
      have cS : ∀ n b m, (((wr.drewN n).setCell ⟨w.heap.size, i, none⟩ (.bool b)).drewN m).cell? ⟨w.heap.size, i, none⟩ = some (.bool b) := fun n b m => bl_cell (blk_drewN (hS n b) m) (List.getElem?_set_self (by rw [setB_len]; omega))
      have fS : ∀ n b m, (((wr.drewN n).setCell ⟨w.heap.size, i, none⟩ (.bool b)).drewN m).frozen? ⟨w.heap.size, i, none⟩ = false := fun n b m => blk_frozen (blk_drewN (hS n b) m) _
      replace hpv := Aside0.mk hpv
      replace hS := Aside0.mk hS
      cases r with
      | false =>
        have st := Aside0.mk (setB_step x y at_ wide i hi (x.testBit i) (by rw [er]; rfl))
        replace er := Aside0.mk er
        go_wp2_with (first | (go_at_call 24; refine (CI.out _).mono ?_; rintro e w2 ⟨rfl, ⟨n2, rfl⟩⟩) | (go_at_call 16; refine (CB.out _).mono ?_; rintro e w3 ⟨rfl, ⟨n3, rfl⟩⟩))
        go_roundg k1
        case measure => have := HK.out; omega
        case rel => exact ⟨i + 1, by first | rfl | exact congrArg (Value.int .i64) e1.out | simp, ⟨by have := HK.out; omega⟩, ⟨by rw [← st.out]; exact blkd (hS.out _ _)⟩, ⟨by refine HF.out.then_ ?_; repeat (with_reducible first | exact Far.refl _ _ | refine Far.set1 ?_ _ _ | refine Far.drewN ?_ _)⟩⟩
      | true =>
        have hin := er
        unfold inP at hin
        have hp := of_decide_eq_true hin
        obtain ⟨q, hq⟩ : ∃ q : Nat, (q : Int) = (i : Int) - at_ := ⟨((i : Int) - at_).toNat, by omega⟩
        have q64 : q < 64 := by omega
        have st := setB_step x y at_ wide i hi (y.testBit q) (by rw [er, if_pos rfl]; refine congrArg _ ?_; omega)
        have st2 : ((setB x y at_ wide i).set i (x.testBit i)).set i (y.testBit q) = setB x y at_ wide (i + 1) := by rw [List.set_set]; exact st
        have CN := fun W => gunnyref01_Bit.calls 100 (y : Int) (q : Int) (y.testBit q) W (bit_is 100 y q hy.out q64 (by omega))
        have eq' : wrap64 ((i : Int) - at_) = (q : Int) := by unfold wrap64; omega
        replace st := Aside0.mk st
        replace st2 := Aside0.mk st2
        replace CN := Aside0.mk CN
        replace hq := Aside0.mk hq
        replace hp := Aside0.mk hp
        replace er := Aside0.mk er
        clear hin
        go_wp2_with (first | (go_at_call 24; refine (CI.out _).mono ?_; rintro e w2 ⟨rfl, ⟨n2, rfl⟩⟩) | (go_at_call 16; with_reducible refine (CB.out _).mono ?_; rintro e w3 ⟨rfl, ⟨n3, rfl⟩⟩) | (go_at_call 16; refine (CN.out _).mono ?_; rintro e w4 ⟨rfl, ⟨n4, rfl⟩⟩))
        go_roundg k1
        case measure => have := HK.out; omega
        case rel => exact ⟨i + 1, by first | rfl | exact congrArg (Value.int .i64) e1.out | simp, ⟨by have := HK.out; omega⟩, ⟨by rw [← st2.out]; exact bl_set (blkd (hS.out _ _)) _ _⟩, ⟨by refine HF.out.then_ ?_; repeat (with_reducible first | exact Far.refl _ _ | refine Far.set1 ?_ _ _ | refine Far.drewN ?_ _)⟩⟩

end Go.Proofs.Ytioabejegjhapaa.NP
