/- tlb's Flush, walked by hand. -/
import Derived.Test.YtfmkjdbhijeejaaT3
namespace Go.Proofs.Ytfmkjdbhijeejaa.Hand
set_option linter.unusedVariables false
set_option linter.unusedSimpArgs false
open Go.RowKit Go.Proofs.Ytfmkjdbhijeejaa.R Go.Proofs.YtfmkjdbhijeejaaW.PrintWords Go.Proofs.YtfmkjdbhijeejaaW.PrintMore

theorem w64s (x : Nat) (h : x < 9223372036854775807) : wrap64 ((x : Int) + 1) = ((x + 1 : Nat) : Int) := by unfold wrap64; omega
def hit (L : List Int) (p : Int) : Prop := 0 ≤ p ∧ p < 68719476736 ∧ L[p.toNat % 16 * 3]? = some (p + 1)
instance (L : List Int) (p : Int) : Decidable (hit L p) := by unfold hit; exact inferInstance
def flush1 (L : List Int) (p : Int) : List Int := if hit L p then ((L.set (p.toNat % 16 * 3) 0).set (p.toNat % 16 * 3 + 1) 0).set (p.toNat % 16 * 3 + 2) 0 else L
def flushL : List Int → List Int → List Int
  | L, [] => L
  | L, p :: r => flushL (flush1 L p) r
def flushN : List Int → List Int → Nat
  | L, [] => 0
  | L, p :: r => (if hit L p then 1 else 0) + flushN (flush1 L p) r

set_option maxHeartbeats 8000000 in
set_option maxRecDepth 100000 in
theorem flush_calls (g : Nat) (L : List Int) (A : Option Addr) (c : Nat) (ps : List Int) (w : World) (hb : w.heap[g]? = some (.cells (ints L) 53 (0, 0))) (hL : L.length = 50)
    (hp : ∀ W', Far (fun x => x = g) w W' → Kd.C (Kd.int .i64) W' A ps.length ps) (hc : ps.length ≤ c) (hl : ps.length < 1000000) :
    Calls Try.prog 13 #[.pointer (some ⟨g, 0, none⟩), .slice A ps.length c] w fun e w' => e = .returned (.int .i64 ((flushN L ps : Nat) : Int)) ∧ w'.heap[g]? = some (.cells (ints (flushL L ps)) 53 (0, 0)) ∧ Far (fun x => x = g) w w' := by
  replace hb := Aside0.mk hb
  replace hL := Aside0.mk hL
  replace hp := Aside0.mk hp
  replace hc := Aside0.mk hc
  replace hl := Aside0.mk hl
  go_enter Try.func13, Try.ntmps13
  go_wp2
  go_loopg [5, 11] ps.length (fun kq v5 v11 w' => ∃ (n i : Nat) (M : List Int), v5 = .int .i64 (n : Int) ∧ v11 = .int .i64 (i : Int) ∧ Aside0 (i + kq = ps.length ∧ n ≤ i ∧ M.length = 50) ∧ Aside0 (flushN L ps = n + flushN M (ps.drop i) ∧ flushL L ps = flushL M (ps.drop i)) ∧ Aside0 (w'.heap[g]? = some (.cells (ints M) 53 (0, 0))) ∧ Aside0 (Far (fun x => x = g) w w'))
  case atStart => exact ⟨0, 0, L, rfl, rfl, ⟨by omega, by omega, hL.out⟩, ⟨by simp, by simp⟩, hb, ⟨Far.refl _ _⟩⟩
  case round =>
    obtain ⟨n, i, M, rfl, rfl, HK, HR, HB, HF⟩ := hrel
    cases gk with
    | zero =>
      have e : i = ps.length := by have := HK.out; omega
      subst e
      have d1 : decide (((ps.length : Nat) : Int) < ((ps.length : Nat) : Int)) = false := decide_eq_false (by omega)
      have r := HR.out
      rw [List.drop_eq_nil_of_le (Nat.le_refl _)] at r
      simp only [flushN, flushL, Nat.add_zero] at r
      replace r := Aside0.mk r
      go_wp2
      go_returns
      exact ⟨by rw [r.out.1]; rfl, by rw [r.out.2]; exact HB.out, HF.out⟩
    | succ k1 =>
      have hi : i < ps.length := by have := HK.out; omega
      have d1 : decide ((i : Int) < ((ps.length : Nat) : Int)) = true := decide_eq_true (by omega)
      have d0 : decide (0 ≤ (i : Int)) = true := decide_eq_true (by omega)
      have hl := hl.out
      have hn := HK.out.2.1
      have hM := HK.out.2.2
      obtain ⟨p, ep⟩ : ∃ p, ps[i] = p := ⟨_, rfl⟩
      have r := HR.out
      rw [List.drop_eq_getElem_cons hi, ep] at r
      simp only [flushN, flushL] at r
      have hC := hp.out wr HF.out
      obtain ⟨ad, cs, eA, hc1, hc2, hc3⟩ := hC.get_ 0 (i : Int) (by omega) (by omega)
      have hcell : wr.cell? (ad.add i) = some (.int .i64 p) := by
        have hk : cs = [.int .i64 p] := by
          have : ps.getD (i : Int).toNat 0 = p := by simp [hi, ep]
          rw [this] at hc2
          exact hc2
        subst hk
        have := hc3 0 _ rfl
        simpa [Kd.int, Kd.scalar] using this
      subst eA
      have e1 := Aside0.mk (w64s i (by omega))
      have e2 := Aside0.mk (w64s n (by omega))
      replace r := Aside0.mk r
      replace ep := Aside0.mk ep
      clear hC hc3 hc2 hc1
      have hq : (i : Int) < (ps.length : Int) := by omega
      replace hi := Aside0.mk hi
      replace hn := Aside0.mk hn
      replace hM := Aside0.mk hM
      replace hl := Aside0.mk hl
      by_cases hin : 0 ≤ p ∧ p < 68719476736
      · obtain ⟨pn, rfl⟩ : ∃ pn : Nat, p = (pn : Int) := ⟨p.toNat, by omega⟩
        have d2 : decide ((pn : Int) < 0) = false := decide_eq_false (by omega)
        have d3 : decide ((pn : Int) ≥ 68719476736) = false := decide_eq_false (by omega)
        have hpn : pn < 68719476736 := by omega
        have o16 : pn % 16 < 16 := Nat.mod_lt _ (by decide)
        obtain ⟨q, hq'⟩ : ∃ q, M[pn % 16 * 3]? = some q := ⟨_, List.getElem?_eq_getElem (by have := hM.out; omega)⟩
        obtain ⟨q1, hq1⟩ : ∃ q, M[pn % 16 * 3 + 1]? = some q := ⟨_, List.getElem?_eq_getElem (by have := hM.out; omega)⟩
        obtain ⟨q2, hq2⟩ : ∃ q, M[pn % 16 * 3 + 2]? = some q := ⟨_, List.getElem?_eq_getElem (by have := hM.out; omega)⟩
        have cc1 := ints_cell HB.out hq1
        have cc2 := ints_cell HB.out hq2
        replace hq1 := Aside0.mk hq1
        replace hq2 := Aside0.mk hq2
        obtain ⟨b, ew⟩ : ∃ b, (q == wrap64 ((pn : Int) + 1)) = b := ⟨_, rfl⟩
        have hhit : b = true ↔ hit M (pn : Int) := by
          unfold hit
          rw [← ew, beq_iff_eq, Int.toNat_natCast, hq', w64s pn (by omega)]
          constructor
          · rintro rfl; exact ⟨hin.1, hin.2, by simp⟩
          · intro h; have := Option.some.inj h.2.2; simpa using this
        replace hhit := Aside0.mk hhit
        replace hpn := Aside0.mk hpn
        replace hq' := Aside0.mk hq'
        replace hin := Aside0.mk hin
        replace o16 := Aside0.mk o16
        have fz : wr.frozen? ⟨g, pn % 16 * 3, none⟩ = false := blk_frozen HB.out _
        have fz1 : wr.frozen? ⟨g, pn % 16 * 3 + 1, none⟩ = false := blk_frozen HB.out _
        have fz2 : wr.frozen? ⟨g, pn % 16 * 3 + 2, none⟩ = false := blk_frozen HB.out _
        have cc := ints_cell HB.out hq'.out
        cases b with
        | false =>
          have hh : ¬ hit M (pn : Int) := fun h => absurd (hhit.out.2 h) (by decide)
          replace hh := Aside0.mk hh
          go_wp2_with (first | (go_at_call 23; with_reducible refine (at_calls g pn _ hpn.out).mono ?_; rintro e w' ⟨rfl, rfl⟩) | (go_at_call 24; with_reducible refine (has_calls g _ M q _ _ HB.out hq'.out).mono ?_; rintro e w' ⟨rfl, rfl⟩))
          go_roundg k1
          case measure => have := HK.out; omega
          case rel => exact ⟨n, i + 1, M, by first | rfl | exact congrArg (Value.int .i64) e2.out | simp, by first | rfl | exact congrArg (Value.int .i64) e1.out | simp, ⟨by have := HK.out.1; omega, by have := hn.out; omega, hM.out⟩, ⟨by have z := r.out; rw [if_neg hh.out, Nat.zero_add] at z; unfold flush1 at z; rw [if_neg hh.out] at z; exact z⟩, HB, HF⟩
        | true =>
          have hh : hit M (pn : Int) := hhit.out.1 rfl
          replace hh := Aside0.mk hh
          go_wp2_with (first | (go_at_call 23; with_reducible refine (at_calls g pn _ hpn.out).mono ?_; rintro e w' ⟨rfl, rfl⟩) | (go_at_call 24; with_reducible refine (has_calls g _ M q _ _ HB.out hq'.out).mono ?_; rintro e w' ⟨rfl, rfl⟩))
          go_roundg k1
          case measure => have := HK.out; omega
          case rel => exact ⟨n + 1, i + 1, ((M.set (pn % 16 * 3) 0).set (pn % 16 * 3 + 1) 0).set (pn % 16 * 3 + 2) 0, by first | rfl | exact congrArg (Value.int .i64) e2.out | simp, by first | rfl | exact congrArg (Value.int .i64) e1.out | simp, ⟨by have := HK.out.1; omega, by have := hn.out; omega, by simp [hM.out]⟩, ⟨by have z := r.out; rw [if_pos hh.out] at z; unfold flush1 at z; rw [if_pos hh.out, Int.toNat_natCast] at z; exact ⟨by rw [z.1]; omega, z.2⟩⟩, ⟨ints_set (ints_set (ints_set HB.out _ _) _ _) _ _⟩, ⟨by refine HF.out.then_ ?_; repeat (with_reducible first | exact Far.refl _ _ | refine Far.set1 ?_ _ _)⟩⟩
      · obtain ⟨b2, d2⟩ : ∃ b, decide (p < 0) = b := ⟨_, rfl⟩
        obtain ⟨b3, d3⟩ : ∃ b, decide (p ≥ 68719476736) = b := ⟨_, rfl⟩
        have hh : ¬ hit M p := fun h => hin ⟨h.1, h.2.1⟩
        have fin : b2 = true ∨ b3 = true := by
          rw [← d2, ← d3, decide_eq_true_iff, decide_eq_true_iff]
          omega
        replace hh := Aside0.mk hh
        replace fin := Aside0.mk fin
        clear hin
        cases b2 with
        | true =>
          go_wp2_with fail
          go_roundg k1
          case measure => have := HK.out; omega
          case rel => exact ⟨n, i + 1, M, by first | rfl | exact congrArg (Value.int .i64) e2.out | simp, by first | rfl | exact congrArg (Value.int .i64) e1.out | simp, ⟨by have := HK.out.1; omega, by have := hn.out; omega, hM.out⟩, ⟨by have z := r.out; rw [if_neg hh.out, Nat.zero_add] at z; unfold flush1 at z; rw [if_neg hh.out] at z; exact z⟩, HB, HF⟩
        | false => cases b3 with
          | true =>
            go_wp2_with fail
            go_roundg k1
            case measure => have := HK.out; omega
            case rel => exact ⟨n, i + 1, M, by first | rfl | exact congrArg (Value.int .i64) e2.out | simp, by first | rfl | exact congrArg (Value.int .i64) e1.out | simp, ⟨by have := HK.out.1; omega, by have := hn.out; omega, hM.out⟩, ⟨by have z := r.out; rw [if_neg hh.out, Nat.zero_add] at z; unfold flush1 at z; rw [if_neg hh.out] at z; exact z⟩, HB, HF⟩
          | false => exact absurd fin.out (by decide)

end Go.Proofs.Ytfmkjdbhijeejaa.Hand
