/- RamPlays: the document's Take, where nothing is taken: what was handed in stays. -/
import Derived.Test.YtoejchlelamhjaaN3
import Derived.Deep.QuietTactic
import Derived.BigQuiet
namespace Go.Proofs.Ytoejchlelamhjaa.Hand
set_option linter.unusedVariables false
set_option linter.unusedSimpArgs false
open Go.RowKit Go.Proofs.Ytoejchlelamhjaa.R Go.Proofs.Ytoejchlelamhjaa.Byt Go.Proofs.YtoejchlelamhjaaW.PrintWords Go.Proofs.YtoejchlelamhjaaW.PrintLast Go.Proofs.YtoejchlelamhjaaW.PrintMore

theorem C_at' {k : IntKind} {w : World} {A : Option Addr} {n : Nat} {xs : List Int} (h : (Kd.int k).C w A n xs) (i : Nat) (hi : i < xs.length) : ∃ ad, A = some ad ∧ w.cell? (ad.add i) = some (.int k xs[i]) := by
  have hR := Kd.reads_of_C (enc := Value.int k) (d := (0 : Int)) (h1 := fun _ => rfl) h
  have hn : n = xs.length := h.1.symm
  obtain ⟨ad, ha, hc⟩ := hR.2.2 (by omega)
  refine ⟨ad, ha, ?_⟩
  rw [hc i (by omega)]
  simp [hi]
set_option maxHeartbeats 8000000 in
set_option maxRecDepth 100000 in
theorem x5_no (A0 : Option Addr) (c0 : Nat) (own : List Int) (A1 : Option Addr) (c1 : Nat) (wh : List Int) (now owner : Int) (w : World) (hC0 : Kd.C (Kd.int .i64) w A0 own.length own) (hc0 : own.length ≤ c0) (hC1 : Kd.C (Kd.int .i64) w A1 wh.length wh) (hc1 : wh.length ≤ c1) (hO : own.length < 1000000) (hW : wh.length < 1000000)
    (hr : gunnyref05_Take.f 1001 own wh now owner = some (own, wh, now, 0, false)) :
    Calls Try.prog 42 #[.agg #[.slice A0 own.length c0, .slice A1 wh.length c1, .int .i64 now], .int .i64 owner] w fun e w' => e = .returned (.tuple #[.agg #[.slice A0 own.length c0, .slice A1 wh.length c1, .int .i64 now], .int .i64 0, .bool false]) ∧ Below w.heap.size w w' := by
  obtain ⟨W1, hW1⟩ : ∃ W1, W1 = (w.alloc (C54 (.slice A0 own.length c0) (.slice A1 wh.length c1) now)).alloc (C54 (.slice none 0 0) (.slice none 0 0) 0) := ⟨_, rfl⟩
  have hb1 := below_alloc (below_alloc (Below.refl w.heap.size w) (C54 (.slice A0 own.length c0) (.slice A1 wh.length c1) now)) (C54 (.slice none 0 0) (.slice none 0 0) 0)
  have hx1 := blk_alloc (blk_new w (C54 (.slice A0 own.length c0) (.slice A1 wh.length c1) now)) (C54 (.slice none 0 0) (.slice none 0 0) 0)
  have hz1 := blk_new (w.alloc (C54 (.slice A0 own.length c0) (.slice A1 wh.length c1) now)) (C54 (.slice none 0 0) (.slice none 0 0) 0)
  rw [World.size_alloc] at hz1
  rw [← hW1] at hb1 hx1 hz1
  have hA0 := Aside0.mk (fun W (hb : Below W1.heap.size W1 W) => Kd.C_below (Kd.C_below hC0 hb1) hb)
  have hA1 := Aside0.mk (fun W (hb : Below W1.heap.size W1 W) => Kd.C_below (Kd.C_below hC1 hb1) hb)
  unfold gunnyref05_Take.f at hr
  replace hx1 := Aside0.mk hx1
  replace hz1 := Aside0.mk hz1
  replace hb1 := Aside0.mk hb1
  replace hr := Aside0.mk hr
  replace hW1 := Aside0.mk hW1
  have hOW := Aside0.mk (And.intro hO hW)
  clear hC0 hC1 hc0 hc1 hO hW
  go_enter Try.func42, Try.ntmps42
  go_upto_region 1 with (fail)
  rw [← hW1.out]
  go_wp2
  go_loopg [7, 8] own.length (fun kq v7 v8 w' => ∃ (i k : Nat) (b : Int), v7 = .int .i64 b ∧ v8 = .int .i64 (i : Int) ∧ Aside0 (i + kq = own.length) ∧ Aside0 (gunnyref05_Take.l0 k owner b (i : Int) own wh now = some (own, wh, now, 0, false)) ∧ Aside0 (Below W1.heap.size W1 w'))
  case atStart => exact ⟨0, 1001, -1, rfl, rfl, ⟨by omega⟩, hr, ⟨Below.refl _ _⟩⟩
  case round =>
    obtain ⟨i, k, b, rfl, rfl, HI, HR, HB⟩ := hrel
    have x0 : wr.cell? ⟨w.heap.size, 0, none⟩ = some (.slice A0 own.length c0) := (blk_cell (blk_below hx1.out HB.out) 0).trans rfl
    have x1 : wr.cell? ⟨w.heap.size, 1, none⟩ = some (.slice A1 wh.length c1) := (blk_cell (blk_below hx1.out HB.out) 1).trans rfl
    have x2 : wr.cell? ⟨w.heap.size, 2, none⟩ = some (.int .i64 now) := (blk_cell (blk_below hx1.out HB.out) 2).trans rfl
    obtain ⟨k, rfl⟩ : ∃ m, k = m + 1 := ⟨k - 1, by
      cases k with
      | zero => exact absurd HR.out (by simp [gunnyref05_Take.l0])
      | succ m => rfl⟩
    have HRo := HR.out
    simp only [gunnyref05_Take.l0] at HRo
    cases gk with
    | zero =>
      have e1 : decide ((i : Int) < (own.length : Int)) = false := decide_eq_false (by have := HI.out; omega)
      have e2 : decide (i < own.length) = false := decide_eq_false (by have := HI.out; omega)
      rw [if_neg (by have := HI.out; omega)] at HRo
      have hz := blk_below hz1.out HB.out
      have z0 : wr.cell? ⟨w.heap.size + 1, 0, none⟩ = some (.slice none 0 0) := (blk_cell hz 0).trans rfl
      have z1 : wr.cell? ⟨w.heap.size + 1, 1, none⟩ = some (.slice none 0 0) := (blk_cell hz 1).trans rfl
      have z2 : wr.cell? ⟨w.heap.size + 1, 2, none⟩ = some (.int .i64 0) := (blk_cell hz 2).trans rfl
      have zf := fun j => blk_frozen hz j
      have HZ := Aside0.mk (blk_put (cs' := #[.slice A0 own.length c0, .slice A1 wh.length c1, .int .i64 now]) (blk_put (cs' := #[.slice A0 own.length c0, .slice A1 wh.length c1, .int .i64 0]) (blk_put (cs' := #[.slice A0 own.length c0, .slice none 0 0, .int .i64 0]) hz 0 (.slice A0 own.length c0) (by simp)) 1 (.slice A1 wh.length c1) (by simp)) 2 (.int .i64 now) (by simp))
      have HF := Aside0.mk (show Below w.heap.size w (((wr.setCell ⟨w.heap.size + 1, 0, none⟩ (.slice A0 own.length c0)).setCell ⟨w.heap.size + 1, 1, none⟩ (.slice A1 wh.length c1)).setCell ⟨w.heap.size + 1, 2, none⟩ (.int .i64 now)) from
        below_set (below_set (below_set (below_step hb1.out HB.out) (by omega)) (by omega)) (by omega))
      have hno : b < 0 ∨ owner < 1 ∨ owner > 3 := by
        by_cases h1 : b < 0
        · exact .inl h1
        by_cases h2 : owner < 1
        · exact .inr (.inl h2)
        by_cases h3 : owner > 3
        · exact .inr (.inr h3)
        exfalso
        rw [if_neg h1, if_neg h2, if_neg h3] at HRo
        simp only [Option.bind_some] at HRo
        split at HRo
        · split at HRo
          · split at HRo
            · simp at HRo
            · cases HRo
          · cases HRo
        · cases HRo
      clear hz HRo
      by_cases h1 : b < 0
      · have d1 : decide (b < 0) = true := decide_eq_true h1
        clear hno h1
        go_wp2
        refine bodyPost_ret (results_row2 rfl _ _ (w.heap.size + 1) 54 _ (0, 0) _ rfl HZ.out Try.underlying54 (by kernel_rfl)) rfl ?_
        exact ⟨rfl, HF.out⟩
      · have d1 : decide (b < 0) = false := decide_eq_false h1
        by_cases h2 : owner < 1
        · have d2 : decide (owner < 1) = true := decide_eq_true h2
          have d2' : decide (owner ≤ 0) = true := decide_eq_true (by omega)
          clear hno h1
          go_wp2
          refine bodyPost_ret (results_row2 rfl _ _ (w.heap.size + 1) 54 _ (0, 0) _ rfl HZ.out Try.underlying54 (by kernel_rfl)) rfl ?_
          exact ⟨rfl, HF.out⟩
        · have d2 : decide (owner < 1) = false := decide_eq_false h2
          have d2' : decide (owner ≤ 0) = false := decide_eq_false (by omega)
          have h3 : owner > 3 := by omega
          have d3 : decide (owner > 3) = true := decide_eq_true h3
          have d3' : decide (3 < owner) = true := decide_eq_true h3
          clear hno h1 h2
          go_wp2
          refine bodyPost_ret (results_row2 rfl _ _ (w.heap.size + 1) 54 _ (0, 0) _ rfl HZ.out Try.underlying54 (by kernel_rfl)) rfl ?_
          exact ⟨rfl, HF.out⟩
    | succ q =>
      have hi : i < own.length := by have := HI.out; omega
      have e1 : decide ((i : Int) < (own.length : Int)) = true := decide_eq_true (by omega)
      have e2 : decide (i < own.length) = true := decide_eq_true hi
      have hi0 : (0 : Int) ≤ (i : Int) := by omega
      have hi1 : (i : Int) < (own.length : Int) := by omega
      have hil : i < 9223372036854775807 := by have := hOW.out.1; omega
      have ws := Aside0.mk (w64s i hil)
      rw [if_pos hi1, if_pos hi0, rd_at own i hi, w64s i hil] at HRo
      clear hil
      obtain ⟨ad, rfl, r0⟩ := C_at' (hA0.out wr HB.out) i hi
      by_cases ho : own[i] = 0
      · rw [if_pos ho] at HRo
        rw [ho] at r0
        by_cases h1 : b < 0
        · rw [if_pos h1] at HRo
          have d1 : decide (b < 0) = true := decide_eq_true h1
          replace HRo := Aside0.mk HRo
          clear ho h1
          go_upto_region 5 with (fail)
          go_quiet (fail)
          go_wp2
          go_roundg q
          case measure => omega
          case rel => exact ⟨i + 1, k, (i : Int), by first | rfl | simp, by first | rw [ws.out] | rfl, ⟨by have := HI.out; omega⟩, HRo, by first | exact HB | exact ⟨pw_below_drewN HB.out _⟩⟩
        · have d1 : decide (b < 0) = false := decide_eq_false h1
          rw [if_neg h1] at HRo
          have hiw : i < wh.length := by
            apply Classical.byContradiction
            intro hn
            rw [if_neg (by omega)] at HRo
            cases HRo
          rw [if_pos (by omega), if_pos (by omega)] at HRo
          have hbw : b < (wh.length : Int) := by
            apply Classical.byContradiction
            intro hn
            rw [if_neg hn] at HRo
            cases HRo
          rw [if_pos hbw] at HRo
          obtain ⟨b, rfl⟩ : ∃ m : Nat, b = (m : Int) := ⟨b.toNat, by omega⟩
          have hbw' : b < wh.length := by omega
          obtain ⟨ad1, rfl, r1⟩ := C_at' (hA1.out wr HB.out) i hiw
          obtain ⟨ad2, h2, r2⟩ := C_at' (hA1.out wr HB.out) b hbw'
          injection h2 with h2
          subst h2
          rw [rd_at wh i hiw, rd_at wh b hbw'] at HRo
          have g1 : decide ((i : Int) < (wh.length : Int)) = true := decide_eq_true (by omega)
          have g2 : decide (i < wh.length) = true := decide_eq_true hiw
          have g3 : decide ((b : Int) < (wh.length : Int)) = true := decide_eq_true hbw
          have g4 : decide (b < wh.length) = true := decide_eq_true hbw'
          have hb0 : (0 : Int) ≤ (b : Int) := by omega
          have hi1w : (i : Int) < (wh.length : Int) := by omega
          generalize wh[i] = p1 at r1 HRo
          generalize wh[b] = p2 at r2 HRo
          by_cases hg : p1 > p2
          · rw [if_pos hg] at HRo
            have d5 : decide (p1 > p2) = true := decide_eq_true hg
            have d6 : decide (p2 < p1) = true := decide_eq_true hg
            replace HRo := Aside0.mk HRo
            clear ho h1 hg hiw
            go_upto_region 5 with (fail)
            go_quiet (fail)
            go_wp2
            go_roundg q
            case measure => omega
            case rel => exact ⟨i + 1, k, (i : Int), by first | rfl | simp, by first | rw [ws.out] | rfl, ⟨by have := HI.out; omega⟩, HRo, by first | exact HB | exact ⟨pw_below_drewN HB.out _⟩⟩
          · rw [if_neg hg] at HRo
            have d5 : decide (p1 > p2) = false := decide_eq_false hg
            have d6 : decide (p2 < p1) = false := decide_eq_false hg
            replace HRo := Aside0.mk HRo
            clear ho h1 hg hiw
            go_upto_region 5 with (fail)
            go_quiet (fail)
            go_wp2
            go_roundg q
            case measure => omega
            case rel => exact ⟨i + 1, k, (b : Int), by first | rfl | simp, by first | rw [ws.out] | rfl, ⟨by have := HI.out; omega⟩, HRo, by first | exact HB | exact ⟨pw_below_drewN HB.out _⟩⟩
      · rw [if_neg ho] at HRo
        have d0 : (own[i] == 0) = false := beq_eq_false_iff_ne.mpr ho
        replace HRo := Aside0.mk HRo
        clear ho
        generalize own[i] = p0 at r0 d0
        go_upto_region 5 with (fail)
        go_quiet (fail)
        go_wp2
        go_roundg q
        case measure => omega
        case rel => exact ⟨i + 1, k, b, rfl, by first | rw [ws.out] | rfl, ⟨by have := HI.out; omega⟩, HRo, by first | exact HB | exact ⟨pw_below_drewN HB.out _⟩⟩

end Go.Proofs.Ytoejchlelamhjaa.Hand
