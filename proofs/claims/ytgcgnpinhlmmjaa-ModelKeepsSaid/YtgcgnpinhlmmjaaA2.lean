/- The small functions at addresses that are natural numbers; New; why bytes may not be used: walked. -/
import Derived.Test.YtgcgnpinhlmmjaaA1
import Derived.Handy
import Derived.BigQuiet
import Derived.Deep.QuietTactic
import Derived.Deep.DeepCutAuto
namespace Go.Proofs.Ytgcgnpinhlmmjaa.Hand
set_option linter.unusedVariables false
set_option linter.unusedSimpArgs false
open Go.RowKit Go.Maps Go.Proofs.Ytgcgnpinhlmmjaa.R Go.Proofs.Ytgcgnpinhlmmjaa.Va Go.Proofs.YtgcgnpinhlmmjaaW.PrintWords Go.Proofs.YtgcgnpinhlmmjaaW.PrintLast Go.Proofs.YtgcgnpinhlmmjaaW.PrintMore

theorem page_calls (a : Nat) (ha : a < 18446744073709551616) (w : World) : Calls Try.prog 35 #[.int .u64 (a : Int)] w fun e w' => e = .returned (.int .i64 (pnum a)) ∧ w' = w := va_Page.calls 1 a _ w (page_some 0 a ha)
theorem offset_calls (a : Nat) (ha : a < 18446744073709551616) (w : World) : Calls Try.prog 67 #[.int .u64 (a : Int)] w fun e w' => e = .returned (.int .i64 ((a % 4096 : Nat) : Int)) ∧ w' = w := va_Offset.calls 1 a _ w (offset_some 0 a ha)
theorem canon_calls (a : Nat) (ha : a < 18446744073709551616) (w : World) : Calls Try.prog 34 #[.int .u64 (a : Int)] w fun e w' => e = .returned (.bool (canonB a)) ∧ w' = w := va_Canon.calls 1 a _ w (canon_some 0 a ha)
theorem at_calls (a : Nat) (ha : a < 18446744073709551616) (w : World) : Calls Try.prog 57 #[.int .u64 (a : Int)] w fun e w' => e = .returned (.int .i64 (atE a)) ∧ w' = w := by
  refine model_at.calls 1 a _ w ?_
  unfold model_at.f
  rw [canon_some 0 a ha, offset_some 0 a ha]
  simp only [Option.bind_some]
  unfold atE canonB
  by_cases h : sp a = a
  · have h1 : decide (sp a = a) = true := decide_eq_true h
    rw [h1]
    simp only [if_true, Bool.true_eq_false, if_false]
    by_cases h2 : a % 4096 = 0
    · rw [if_pos (by omega), if_neg (by omega)]
    · rw [if_neg (by omega), if_pos h2]
  · have h1 : decide (sp a = a) = false := decide_eq_false h
    rw [h1]
    simp only [if_true, Bool.false_eq_true, if_false]
theorem may_perm (p : Int) : pte_May.f p = some (permB p) := by
  unfold pte_May.f permB
  by_cases h1 : p ≥ 1
  · rw [if_pos h1]
    by_cases h2 : p ≤ 7
    · rw [if_pos h2]
      have : p = 1 ∨ p = 2 ∨ p = 3 ∨ p = 4 ∨ p = 5 ∨ p = 6 ∨ p = 7 := by omega
      rcases this with rfl | rfl | rfl | rfl | rfl | rfl | rfl <;> rfl
    · rw [if_neg h2, decide_eq_false (by omega)]
  · rw [if_neg h1, decide_eq_false (by omega)]
theorem perm_calls (p : Int) (w : World) : Calls Try.prog 58 #[.int .i64 p] w fun e w' => e = .returned (.bool (permB p)) ∧ w' = w := pte_May.calls p _ w (may_perm p)
theorem wants_calls (b : Bool) (e0 : Int) (w : World) : Calls Try.prog 48 #[.bool b, .int .i64 e0] w fun e w' => e = .returned (.int .i64 (if b = true then 0 else e0)) ∧ w' = w := model_wants.calls b e0 _ w (by unfold model_wants.f; split <;> rfl)

set_option maxHeartbeats 8000000 in
set_option maxRecDepth 100000 in
theorem new_calls (w : World) : Calls Try.prog 13 #[] w fun e w' => e = .returned (.pointer (some ⟨w.heap.size + 1, 0, none⟩)) ∧ MD w' w.heap.size (w.heap.size + 1) w.heap.size 0 (.map []) [] (fun _ => (0, 0)) ∧ Below w.heap.size w w' := by
  have hmm := @run_makeMap Try.prog
  have h1 := World.ownsMap_made (H := Unit) w Try.prog 3 ptrR
  have h2 : Below w.heap.size w ((w.alloc (.map #[] 0)).alloc (.cells #[.map (some w.heap.size)] 68 (0, 0))) := below_alloc (below_alloc (Below.refl _ w) _) _
  have hs : (w.alloc (.map #[] 0)).heap.size = w.heap.size + 1 := World.size_alloc _ _
  have h3 : MD ((w.alloc (.map #[] 0)).alloc (.cells #[.map (some w.heap.size)] 68 (0, 0))) w.heap.size (w.heap.size + 1) w.heap.size 0 (.map []) [] (fun _ => (0, 0)) :=
    ⟨by rw [← hs]; exact blk_new _ _, h1.alloc _, List.Pairwise.nil, (fun _ h => by cases h), (fun n => rfl), (fun _ h => by cases h), (fun _ h => by cases h), (fun _ h => by cases h), (fun _ h => by cases h), ⟨by omega, Nat.le_refl _, fun _ h => by cases h⟩⟩
  replace h2 := Aside0.mk h2
  replace h3 := Aside0.mk h3
  clear h1 hs
  go_enter Try.func13, Try.ntmps13
  go_wp2
  go_returns
  exact ⟨rfl, h3.out, h2.out⟩

theorem u64i (i : Nat) (h : i < 18446744073709551616) : IntKind.u64.wrap (i : Int) = (i : Int) := by rw [IntKind.wrap_u64]; omega
theorem u64addr (a i : Nat) : IntKind.u64.wrap ((a : Int) + (i : Int)) = ((addr a i : Nat) : Int) := by rw [IntKind.wrap_u64]; unfold addr; omega
theorem w64s (i : Nat) (h : i < 9223372036854775807) : wrap64 ((i : Int) + 1) = ((i + 1 : Nat) : Int) := by unfold wrap64; omega

set_option maxHeartbeats 8000000 in
set_option maxRecDepth 100000 in
theorem may_calls (base bb mb cnt : Nat) (D : DataW Unit) (L : List Pg) (B : Int → Nat × Nat) (a : Nat) (ha : a < 18446744073709551616) (n use : Int) (w : World) (h : MD w base bb mb cnt D L B) :
    Calls Try.prog 59 #[.pointer (some ⟨bb, 0, none⟩), .int .u64 (a : Int), .int .i64 n, .int .i64 use] w fun e w' => e = .returned (.int .i64 (mayB L a n use)) ∧ Drawn0 w w' := by
  obtain ⟨r, hr⟩ : ∃ r, r = mayB L a n use := ⟨_, rfl⟩
  rw [← hr]
  unfold mayB at hr
  by_cases c1 : n < 1
  · rw [if_pos c1] at hr
    subst hr
    have d1 : decide (n < 1) = true := decide_eq_true c1
    clear c1 h
    go_enter Try.func59, Try.ntmps59
    go_wp2
    go_returns
    exact ⟨rfl, Drawn0.refl _⟩
  rw [if_neg c1] at hr
  have d1 : decide (n < 1) = false := decide_eq_false c1
  by_cases c2 : n > 64
  · rw [if_pos c2] at hr
    subst hr
    have d2 : decide (n > 64) = true := decide_eq_true c2
    clear c1 c2 h
    go_enter Try.func59, Try.ntmps59
    go_wp2
    go_returns
    exact ⟨rfl, Drawn0.refl _⟩
  rw [if_neg c2] at hr
  have d2 : decide (n > 64) = false := decide_eq_false c2
  obtain ⟨m, rfl⟩ : ∃ m : Nat, n = (m : Int) := ⟨n.toNat, by omega⟩
  rw [Int.toNat_natCast] at hr
  have hm := Aside0.mk (show 1 ≤ m ∧ m ≤ 64 by omega)
  have kb : w.cell? ⟨bb, 0, none⟩ = some (.map (some mb)) := (blk_cell h.blk 0).trans rfl
  have hR := Aside0.mk hr
  replace h := Aside0.mk h
  clear c1 c2 hr
  go_enter Try.func59, Try.ntmps59
  go_wp2
  go_loopg [20] m (fun kq v20 w' => ∃ (i : Nat), v20 = .int .i64 (i : Int) ∧ Aside0 (i + kq = m ∧ r = mayF L a use i kq) ∧ Drawn0 w w')
  case atStart => exact ⟨0, rfl, ⟨by omega, hR.out⟩, Drawn0.refl _⟩
  case round =>
    clear hR
    obtain ⟨i, rfl, HK, ⟨m1, rfl⟩⟩ := hrel
    cases gk with
    | zero =>
      obtain rfl : i = m := by have := HK.out.1; omega
      have er : r = 0 := HK.out.2
      subst er
      have d3 : decide (((i : Nat) : Int) < ((i : Nat) : Int)) = false := decide_eq_false (by omega)
      go_wp2
      go_returns
      exact ⟨rfl, ⟨_, rfl⟩⟩
    | succ k1 =>
      have hi : i < m := by have := HK.out.1; omega
      have hm64 : m ≤ 64 := hm.out.2
      have d3 : decide ((i : Int) < (m : Int)) = true := decide_eq_true (by omega)
      have d3' : decide (i < m) = true := decide_eq_true hi
      have e1 := u64i i (by omega)
      have e2 := u64addr a i
      have ws := Aside0.mk (w64s i (by omega))
      have hb := addr_lt a i
      obtain ⟨b, hbe⟩ : ∃ b, b = addr a i := ⟨_, rfl⟩
      have hst : r = if may1 L a use i = 0 then mayF L a use (i + 1) k1 else may1 L a use i := HK.out.2
      have hm1 : may1 L a use i = if b < a then 8 else if canonB b = false then 8 else match getP L (pnum b) with
          | none => 9
          | some p => if Go.bits .and .i64 p.perm use = 0 then 10 else 0 := by rw [hbe]; rfl
      rw [← hbe] at e2 hb
      have hC := Aside0.mk (canon_calls b hb)
      have hP := Aside0.mk (page_calls b hb)
      have hlk := fun N => h.out.look_ok (pnum b) (pnum_lt b) (w.drewN N) (pw_below_drewN (Below.refl _ _) N)
      generalize canonB b = cb at hC hm1
      generalize may1 L a use i = q at hst hm1
      by_cases c4 : b < a
      · rw [if_pos c4] at hm1
        subst hm1
        have er : r = 8 := hst
        subst er
        have d4 : decide (b < a) = true := decide_eq_true c4
        have d4' : decide ((b : Int) < (a : Int)) = true := decide_eq_true (by omega)
        clear c4 hst hbe hb hi hm64 hlk
        go_wp2
        go_returns
        exact ⟨rfl, ⟨_, rfl⟩⟩
      rw [if_neg c4] at hm1
      have d4 : decide (b < a) = false := decide_eq_false c4
      have d4' : decide ((b : Int) < (a : Int)) = false := decide_eq_false (by omega)
      cases cb with
      | false =>
        rw [if_pos rfl] at hm1
        subst hm1
        have er : r = 8 := hst
        subst er
        clear c4 hst hbe hb hi hm64 hlk
        go_wp2_with (go_at_call 34; refine (hC.out _).mono ?_; rintro e w2 ⟨rfl, rfl⟩)
        go_returns
        exact ⟨rfl, ⟨_, rfl⟩⟩
      | true =>
        rw [if_neg (by decide)] at hm1
        rw [hasP_get] at hlk
        unfold pbOf at hlk
        cases hg : getP L (pnum b) with
        | none =>
          rw [hg] at hm1 hlk
          replace hm1 : q = 9 := hm1
          subst hm1
          have er : r = 9 := hst
          subst er
          simp only [Option.map_none, Option.isSome_none, ptrV] at hlk
          clear c4 hst hbe hb hi hm64 hg
          go_upto_region 9 with (go_at_call 34; refine (hC.out _).mono ?_; rintro e w2 ⟨rfl, rfl⟩)
          go_quiet (first | (go_at_call 35; (with_reducible refine (hP.out _).mono ?_); rintro e w' ⟨rfl, rfl⟩; exact ⟨rfl, _, rfl⟩))
          go_wp2
          go_returns
          exact ⟨rfl, ⟨_, rfl⟩⟩
        | some p =>
          rw [hg] at hm1 hlk
          replace hm1 : q = if Go.bits .and .i64 p.perm use = 0 then 10 else 0 := hm1
          obtain ⟨hp1, hp2⟩ := getP_mem hg
          have kp : w.cell? ⟨(B p.n).1, 0, none⟩ = some (.int .i64 p.perm) := (blk_cell (h.out.pg p hp1) 0).trans rfl
          simp only [Option.map_some, Option.isSome_some, ptrV] at hlk
          generalize (B p.n).1 = pb at kp hlk
          by_cases c5 : Go.bits .and .i64 p.perm use = 0
          · rw [if_pos c5] at hm1
            subst hm1
            have er : r = 10 := hst
            subst er
            have b5 : (Go.bits .and .i64 p.perm use == 0) = true := beq_iff_eq.mpr c5
            clear c4 hst hbe hb hi hm64 hg hp1 hp2 c5
            go_upto_region 9 with (go_at_call 34; refine (hC.out _).mono ?_; rintro e w2 ⟨rfl, rfl⟩)
            go_quiet (first | (go_at_call 35; (with_reducible refine (hP.out _).mono ?_); rintro e w' ⟨rfl, rfl⟩; exact ⟨rfl, _, rfl⟩))
            go_wp2
            go_returns
            exact ⟨rfl, ⟨_, rfl⟩⟩
          · rw [if_neg c5] at hm1
            subst hm1
            rw [if_pos rfl] at hst
            have b5 : (Go.bits .and .i64 p.perm use == 0) = false := beq_eq_false_iff_ne.mpr c5
            replace hst := Aside0.mk hst
            clear c4 hbe hb hi hm64 hg hp1 hp2 c5
            go_upto_region 9 with (go_at_call 34; refine (hC.out _).mono ?_; rintro e w2 ⟨rfl, rfl⟩)
            go_quiet (first | (go_at_call 35; (with_reducible refine (hP.out _).mono ?_); rintro e w' ⟨rfl, rfl⟩; exact ⟨rfl, _, rfl⟩))
            go_wp2
            go_roundg k1
            case measure => omega
            case rel => exact ⟨i + 1, by rw [ws.out], ⟨by have := HK.out.1; omega, hst.out⟩, ⟨_, rfl⟩⟩
end Go.Proofs.Ytgcgnpinhlmmjaa.Hand
