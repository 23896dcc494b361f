/- VaMakes, walked. -/
import Derived.Test.YtpdpkjdkafmmhaaVM2
namespace Go.Proofs.Ytpdpkjdkafmmhaa.VM
set_option linter.unusedVariables false
set_option linter.unusedSimpArgs false
open Go.RowKit Go.Proofs.Ytpdpkjdkafmmhaa.R Go.Proofs.Ytpdpkjdkafmmhaa.Bits Go.Proofs.Ytpdpkjdkafmmhaa.Num Go.Proofs.Ytpdpkjdkafmmhaa.Va Go.Proofs.Ytpdpkjdkafmmhaa.Hand Go.Proofs.YtpdpkjdkafmmhaaW.PrintWords Go.Proofs.YtpdpkjdkafmmhaaW.PrintLast Go.Proofs.YtpdpkjdkafmmhaaW.PrintMore

def ints (L : List Int) : Array Value := (L.map (Value.int .i64)).toArray
theorem elem_at {W : World} {k : IntKind} {A : Option Addr} {xs : List Int} (hC : Kd.C (Kd.int k) W A xs.length xs) (j : Nat) (hj : j < xs.length) : ∃ ad, A = some ad ∧ W.cell? (ad.add j) = some (.int k xs[j]) := by
  obtain ⟨ad, cs, eA, hc1, hc2, hc3⟩ := hC.get_ 0 (j : Int) (by omega) (by omega)
  refine ⟨ad, eA, ?_⟩
  have hk : cs = [.int k xs[j]] := by
    have : xs.getD (j : Int).toNat 0 = xs[j] := by simp [hj]
    rw [this] at hc2
    exact hc2
  subst hk
  have := hc3 0 _ rfl
  simpa [Kd.int, Kd.scalar] using this
theorem ints_set24 {w : World} {g : Nat} {L : List Int} (hb : w.heap[g]? = some (.cells (ints L) 24 (0, 0))) (o : Nat) (q : Int) : (w.setCell ⟨g, o, none⟩ (.int .i64 q)).heap[g]? = some (.cells (ints (L.set o q)) 24 (0, 0)) := by
  refine blk_put hb o (.int .i64 q) ?_
  unfold ints
  simp
theorem w64s (x : Nat) (h : x < 9223372036854775807) : wrap64 ((x : Int) + 1) = ((x + 1 : Nat) : Int) := by unfold wrap64; omega

/-- The parts so far, the others 0. -/
structure PP (l : List Int) (P : List Int) (i : Nat) : Prop where
  len : P.length = 4
  at_ : ∀ j : Nat, j < 4 → P[j]? = some (if j < i then rd l (j : Int) else 0)
theorem PP.step {l P : List Int} {i : Nat} (h : PP l P i) (hi : i < 4) : PP l (P.set i (rd l (i : Int))) (i + 1) := by
  have hl := h.len
  refine ⟨by simp [hl], fun j hj => ?_⟩
  by_cases e : j = i
  · subst e; rw [List.getElem?_set_self (by omega), if_pos (by omega)]
  · rw [List.getElem?_set_ne (by omega), h.at_ j hj]
    by_cases h2 : j < i
    · rw [if_pos h2, if_pos (by omega)]
    · rw [if_neg h2, if_neg (by omega)]
/-- Packed and put together: the same. -/
theorem packed_pa (o : Nat) (l : List Int) (hl : l.length ≤ 4) (a b c d : Nat) (ha : (a : Int) = if 0 < l.length then rd l 0 else 0) (hb : (b : Int) = if 1 < l.length then rd l 1 else 0) (hc : (c : Int) = if 2 < l.length then rd l 2 else 0) (hd : (d : Int) = if 3 < l.length then rd l 3 else 0) :
    packed o l l.length = 4096 * pa a b c d 4 + o := by
  have e4 : pa a b c d 4 = 512 * (512 * (512 * d + c) + b) + a := rfl
  have hn : l.length = 0 ∨ l.length = 1 ∨ l.length = 2 ∨ l.length = 3 ∨ l.length = 4 := by omega
  rw [e4]
  have p0 : packed o l 0 = o := rfl
  have p1 : packed o l 1 = packed o l 0 + (rd l 0).toNat * 4096 := rfl
  have p2 : packed o l 2 = packed o l 1 + (rd l 1).toNat * 2097152 := rfl
  have p3 : packed o l 3 = packed o l 2 + (rd l 2).toNat * 1073741824 := rfl
  have p4 : packed o l 4 = packed o l 3 + (rd l 3).toNat * 549755813888 := rfl
  rcases hn with h | h | h | h | h <;> rw [h] at ha hb hc hd ⊢
  · rw [if_neg (by omega)] at ha hb hc hd; omega
  · rw [if_neg (by omega)] at hb hc hd; rw [if_pos (by omega)] at ha; omega
  · rw [if_neg (by omega)] at hc hd; rw [if_pos (by omega)] at ha hb; omega
  · rw [if_neg (by omega)] at hd; rw [if_pos (by omega)] at ha hb hc; omega
  · rw [if_pos (by omega)] at ha hb hc hd; omega

set_option maxHeartbeats 8000000 in
set_option maxRecDepth 100000 in
theorem makes_calls (off : Int) (A : Option Addr) (c : Nat) (l : List Int) (w : World) (hC : Kd.C (Kd.int .i64) w A l.length l) (hc : l.length ≤ c) :
    Calls Try.prog 3 #[.int .i64 off, .slice A l.length c] w fun e w' => e = .returned (.bool true) ∧ Below w.heap.size w w' := by
  replace hC := Aside0.mk hC
  replace hc := Aside0.mk hc
  have HL := fun W => gunnylaw30_lives.calls 99 true W lives99
  replace HL := Aside0.mk HL
  by_cases h20 : (l.length : Int) > 20
  · have d0 : decide (((l.length : Nat) : Int) > 20) = true := decide_eq_true h20
    replace h20 := Aside0.mk h20
    go_enter Try.func3, Try.ntmps3
    go_wp2_with (go_at_call 7; refine (HL.out _).mono ?_; rintro e w7 ⟨rfl, b7⟩; replace b7 := Aside0.mk b7)
    go_returns
    exact ⟨rfl, b7.out⟩
  · have d0 : decide (((l.length : Nat) : Int) > 20) = false := decide_eq_false h20
    replace h20 := Aside0.mk h20
    by_cases g1 : off ≥ 0
    · have e1 : decide (off ≥ 0) = true := decide_eq_true g1
      by_cases g2 : off < 4096
      · have e2 : decide (off < 4096) = true := decide_eq_true g2
        by_cases g3 : ((l.length : Nat) : Int) ≤ 4
        · have e3 : decide (((l.length : Nat) : Int) ≤ 4) = true := decide_eq_true g3
          have HM0 : Aside0 (0 ≤ off ∧ off < 4096 ∧ l.length ≤ 4) := ⟨by omega⟩
          clear g1 g2 g3
          go_enter Try.func3, Try.ntmps3
          go_wp2
          go_loopg [5, 7] (min l.length 4) (fun kq v5 v7 w' => ∃ (i : Nat) (m : Bool) (P : List Int), v5 = .bool m ∧ v7 = .int .i64 (i : Int) ∧ Aside0 (i + kq = min l.length 4) ∧ Aside0 (m = true ↔ (0 ≤ off ∧ off < 4096 ∧ l.length ≤ 4) ∧ ∀ j : Nat, j < i → 0 ≤ rd l (j : Int) ∧ rd l (j : Int) < 512) ∧ Aside0 (PP l P i) ∧ Aside0 (w'.heap[w.heap.size]? = some (.cells (ints P) 24 (0, 0))) ∧ Aside0 (Far (fun x => x = w.heap.size) w w'))
          case atStart =>
            refine ⟨0, true, [0, 0, 0, 0], rfl, rfl, ⟨by omega⟩, ⟨fun _ => ⟨HM0.out, fun j hj => absurd hj (Nat.not_lt_zero j)⟩, fun _ => rfl⟩, ⟨⟨rfl, fun j hj => ?_⟩⟩, ⟨blk_new w _⟩, ⟨Far.alloc (Far.refl _ w) _⟩⟩
            match j, hj with
            | 0, _ => rfl
            | 1, _ => rfl
            | 2, _ => rfl
            | 3, _ => rfl
          case round =>
            obtain ⟨i, m, P, rfl, rfl, HK, HM, HP, HB, HF⟩ := hrel
            cases gk with
            | zero =>
              have I4 : i = min l.length 4 := by have := HK.out; omega
              cases m with
              | true =>
                have hm := HM.out.1 rfl
                have h4 : l.length ≤ 4 := hm.1.2.2
                have il : i = l.length := by omega
                subst il
                have hfine : fine l := fun j hj => hm.2 j hj
                obtain ⟨o, eo⟩ : ∃ o : Nat, off = (o : Int) := ⟨off.toNat, by have := hm.1.1; omega⟩
                have ho : o < 4096 := by have := hm.1.2.1; omega
                have mk : va_Make.f 40 off l = some (((sp (packed o l l.length) : Nat) : Int), true) := by rw [eo]; exact make_some 40 o l ho hfine h4 (by omega)
                have pj : ∀ j : Nat, j < 4 → ∃ q : Nat, q < 512 ∧ P[j]? = some (q : Int) ∧ (q : Int) = if j < l.length then rd l (j : Int) else 0 := by
                  intro j hj
                  have h0 := HP.out.at_ j hj
                  by_cases h1 : j < l.length
                  · have h2 := hfine j h1
                    rw [if_pos h1] at h0
                    exact ⟨(rd l (j : Int)).toNat, by omega, by rw [h0]; refine congrArg some ?_; omega, by rw [if_pos h1]; omega⟩
                  · rw [if_neg h1] at h0
                    exact ⟨0, by omega, by rw [h0]; rfl, by rw [if_neg h1]; rfl⟩
                obtain ⟨qa, qa1, qa2, qa3⟩ := pj 0 (by omega)
                obtain ⟨qb, qb1, qb2, qb3⟩ := pj 1 (by omega)
                obtain ⟨qc, qc1, qc2, qc3⟩ := pj 2 (by omega)
                obtain ⟨qd, qd1, qd2, qd3⟩ := pj 3 (by omega)
                have eP : P = [(qa : Int), (qb : Int), (qc : Int), (qd : Int)] := by
                  have hl := HP.out.len
                  apply List.ext_getElem?
                  intro j
                  match j with
                  | 0 => rw [qa2]; rfl
                  | 1 => rw [qb2]; rfl
                  | 2 => rw [qc2]; rfl
                  | 3 => rw [qd2]; rfl
                  | j + 4 => rw [List.getElem?_eq_none (by omega), List.getElem?_eq_none (by simp)]
                have epk := packed_pa o l h4 qa qb qc qd qa3 qb3 qc3 qd3
                have HBB := HB.out
                rw [eP] at HBB
                have k0 := blk_cell HBB 0
                have k1 := blk_cell HBB 1
                have k2 := blk_cell HBB 2
                have k3 := blk_cell HBB 3
                replace k0 : wr.cell? ⟨w.heap.size, 0, none⟩ = some (.int .i64 (qa : Int)) := k0
                replace k1 : wr.cell? ⟨w.heap.size, 1, none⟩ = some (.int .i64 (qb : Int)) := k1
                replace k2 : wr.cell? ⟨w.heap.size, 2, none⟩ = some (.int .i64 (qc : Int)) := k2
                replace k3 : wr.cell? ⟨w.heap.size, 3, none⟩ = some (.int .i64 (qd : Int)) := k3
                have RM := fun W => refmake_calls o qa qb qc qd ho qa1 qb1 qc1 qd1 W
                rw [← epk] at RM
                obtain ⟨z, ez⟩ : ∃ z : Int, ((sp (packed o l l.length) : Nat) : Int) = z := ⟨_, rfl⟩
                rw [ez] at mk
                simp only [ez] at RM
                rw [eo] at mk ⊢
                have VMK := fun W (h : Kd.C (Kd.int .i64) W A l.length l) => va_Make.calls 40 (o : Int) A c l z true W h hc.out mk
                replace RM := Aside0.mk RM
                replace VMK := Aside0.mk VMK
                have HC := Aside0.mk (Kd.C_below hC.out (HF.out.below (Nat.le_refl _) (fun i hi => by omega)))
                have k0' : ∀ n, (wr.drewN n).cell? ⟨w.heap.size, 0, none⟩ = some (.int .i64 (qa : Int)) := fun n => k0
                have k1' : ∀ n, (wr.drewN n).cell? ⟨w.heap.size, 1, none⟩ = some (.int .i64 (qb : Int)) := fun n => k1
                have k2' : ∀ n, (wr.drewN n).cell? ⟨w.heap.size, 2, none⟩ = some (.int .i64 (qc : Int)) := fun n => k2
                have k3' : ∀ n, (wr.drewN n).cell? ⟨w.heap.size, 3, none⟩ = some (.int .i64 (qd : Int)) := fun n => k3
                have il1 : decide (((l.length : Nat) : Int) < ((l.length : Nat) : Int)) = false := decide_eq_false (by omega)
                clear hm hfine mk pj qa1 qa2 qa3 qb1 qb2 qb3 qc1 qc2 qc3 qd1 qd2 qd3 eP epk HBB ez I4 h4 ho eo HM HP
                go_wp2_with (first | (go_at_call 8; refine (VMK.out _ HC.out).mono ?_; rintro e w2 ⟨rfl, ⟨n2, rfl⟩⟩) | (go_at_call 9; refine (RM.out _).mono ?_; rintro e w3 ⟨rfl, b3⟩; replace b3 := Aside0.mk b3) | (go_at_call 7; refine (HL.out _).mono ?_; rintro e w7 ⟨rfl, b7⟩; replace b7 := Aside0.mk b7))
                go_returns
                exact ⟨rfl, ((((HF.out.drewN n2).then_ (Far.of_below b3.out)).then_ (Far.of_below b7.out))).below (Nat.le_refl _) (fun i hi => by omega)⟩
              | false =>
                have hno : ¬ mayM off l := by
                  rintro ⟨h1, h2, h3, h4⟩
                  have := HM.out.2 ⟨⟨h1, h2, h3⟩, fun j hj => h4 j (by omega)⟩
                  exact absurd this (by decide)
                have mk := make_none off l hno
                have VMK := fun W (h : Kd.C (Kd.int .i64) W A l.length l) => va_Make.calls 40 off A c l 0 false W h hc.out mk
                replace VMK := Aside0.mk VMK
                have HC := Aside0.mk (Kd.C_below hC.out (HF.out.below (Nat.le_refl _) (fun i hi => by omega)))
                by_cases h4 : l.length ≤ 4
                · have il1 : decide ((i : Int) < ((l.length : Nat) : Int)) = false := decide_eq_false (by omega)
                  have il1n : decide (i < l.length) = false := decide_eq_false (by omega)
                  clear hno mk I4 h4 HM HP
                  go_wp2_with (first | (go_at_call 8; refine (VMK.out _ HC.out).mono ?_; rintro e w2 ⟨rfl, ⟨n2, rfl⟩⟩) | (go_at_call 7; refine (HL.out _).mono ?_; rintro e w7 ⟨rfl, b7⟩; replace b7 := Aside0.mk b7))
                  go_returns
                  exact ⟨rfl, (((HF.out.drewN n2).then_ (Far.of_below b7.out))).below (Nat.le_refl _) (fun i hi => by omega)⟩
                · have il1 : decide ((i : Int) < ((l.length : Nat) : Int)) = true := decide_eq_true (by omega)
                  have il1n : decide (i < l.length) = true := decide_eq_true (by omega)
                  have il2 : decide ((i : Int) < 4) = false := decide_eq_false (by omega)
                  have il2n : decide (i < 4) = false := decide_eq_false (by omega)
                  clear hno mk I4 h4 HM HP
                  go_wp2_with (first | (go_at_call 8; refine (VMK.out _ HC.out).mono ?_; rintro e w2 ⟨rfl, ⟨n2, rfl⟩⟩) | (go_at_call 7; refine (HL.out _).mono ?_; rintro e w7 ⟨rfl, b7⟩; replace b7 := Aside0.mk b7))
                  go_returns
                  exact ⟨rfl, (((HF.out.drewN n2).then_ (Far.of_below b7.out))).below (Nat.le_refl _) (fun i hi => by omega)⟩
            | succ k1 =>
              have hi : i < l.length := by have := HK.out; omega
              have hi4 : i < 4 := by have := HK.out; omega
              have il1 : decide ((i : Int) < ((l.length : Nat) : Int)) = true := decide_eq_true (by omega)
              have il1n : decide (i < l.length) = true := decide_eq_true (by omega)
              have il2 : decide ((i : Int) < 4) = true := decide_eq_true (by omega)
              have il2n : decide (i < 4) = true := decide_eq_true (by omega)
              have il0 : decide (0 ≤ (i : Int)) = true := decide_eq_true (by omega)
              have hq : (i : Int) < (l.length : Int) := by omega
              have ei := Aside0.mk (w64s i (by omega))
              obtain ⟨ad, eA, hcl⟩ := elem_at (Kd.C_below hC.out (HF.out.below (Nat.le_refl _) (fun i hi => by omega))) i hi
              subst eA
              have erd : rd l (i : Int) = l[i] := by unfold rd; simp [hi]
              rw [← erd] at hcl
              obtain ⟨y, ey⟩ : ∃ y, rd l (i : Int) = y := ⟨_, rfl⟩
              have HP' := HP.out.step hi4
              rw [ey] at hcl HP'
              replace HP' := Aside0.mk HP'
              have fz : wr.frozen? ⟨w.heap.size, i, none⟩ = false := blk_frozen HB.out _
              obtain ⟨pv, hpv⟩ : ∃ v, P[i]? = some v := ⟨_, HP.out.at_ i hi4⟩
              have cpv : wr.cell? ⟨w.heap.size, i, none⟩ = some (.int .i64 pv) := by rw [blk_cell HB.out]; unfold ints; simp [hpv]
              have stepM : ((0 ≤ off ∧ off < 4096 ∧ l.length ≤ 4) ∧ ∀ j : Nat, j < i + 1 → 0 ≤ rd l (j : Int) ∧ rd l (j : Int) < 512) ↔ (m = true ∧ 0 ≤ y ∧ y < 512) := by
                rw [HM.out]
                constructor
                · rintro ⟨h1, h2⟩
                  have h3 := h2 i (by omega)
                  rw [ey] at h3
                  exact ⟨⟨h1, fun j hj => h2 j (by omega)⟩, h3⟩
                · rintro ⟨⟨h1, h2⟩, h3⟩
                  refine ⟨h1, fun j hj => ?_⟩
                  by_cases e : j = i
                  · subst e; rw [ey]; exact h3
                  · exact h2 j (by omega)
              replace stepM := Aside0.mk stepM
              replace hi := Aside0.mk hi
              replace hpv := Aside0.mk hpv
              replace erd := Aside0.mk erd
              replace ey := Aside0.mk ey
              cases m with
              | false =>
                go_wp2
                go_roundg k1
                case measure => have := HK.out; omega
                case rel => exact ⟨i + 1, false, _, rfl, by first | rfl | exact congrArg (Value.int .i64) ei.out | simp, ⟨by have := HK.out; omega⟩, ⟨by rw [stepM.out]; exact ⟨fun h => absurd h (by decide), fun h => absurd h.1 (by decide)⟩⟩, HP', ⟨ints_set24 HB.out _ _⟩, ⟨by refine HF.out.then_ ?_; repeat (with_reducible first | exact Far.refl _ _ | refine Far.set1 ?_ _ _)⟩⟩
              | true =>
                by_cases y0 : y ≥ 0
                · have dy0 : decide (y ≥ 0) = true := decide_eq_true y0
                  by_cases y5 : y < 512
                  · have dy5 : decide (y < 512) = true := decide_eq_true y5
                    replace y0 := Aside0.mk y0
                    replace y5 := Aside0.mk y5
                    go_wp2
                    go_roundg k1
                    case measure => have := HK.out; omega
                    case rel => exact ⟨i + 1, true, _, rfl, by first | rfl | exact congrArg (Value.int .i64) ei.out | simp, ⟨by have := HK.out; omega⟩, ⟨by rw [stepM.out]; exact ⟨fun _ => ⟨by trivial, y0.out, y5.out⟩, fun _ => rfl⟩⟩, HP', ⟨ints_set24 HB.out _ _⟩, ⟨by refine HF.out.then_ ?_; repeat (with_reducible first | exact Far.refl _ _ | refine Far.set1 ?_ _ _)⟩⟩
                  · have dy5 : decide (y < 512) = false := decide_eq_false y5
                    replace y0 := Aside0.mk y0
                    replace y5 := Aside0.mk y5
                    go_wp2
                    go_roundg k1
                    case measure => have := HK.out; omega
                    case rel => exact ⟨i + 1, false, _, rfl, by first | rfl | exact congrArg (Value.int .i64) ei.out | simp, ⟨by have := HK.out; omega⟩, ⟨by rw [stepM.out]; exact ⟨fun h => absurd h (by decide), fun h => by have h1 := h.2.2; have h2 := y5.out; exact absurd h1 (by omega)⟩⟩, HP', ⟨ints_set24 HB.out _ _⟩, ⟨by refine HF.out.then_ ?_; repeat (with_reducible first | exact Far.refl _ _ | refine Far.set1 ?_ _ _)⟩⟩
                · have dy0 : decide (y ≥ 0) = false := decide_eq_false y0
                  replace y0 := Aside0.mk y0
                  go_wp2
                  go_roundg k1
                  case measure => have := HK.out; omega
                  case rel => exact ⟨i + 1, false, _, rfl, by first | rfl | exact congrArg (Value.int .i64) ei.out | simp, ⟨by have := HK.out; omega⟩, ⟨by rw [stepM.out]; exact ⟨fun h => absurd h (by decide), fun h => by have h1 := h.2.1; have h2 := y0.out; exact absurd h1 (by omega)⟩⟩, HP', ⟨ints_set24 HB.out _ _⟩, ⟨by refine HF.out.then_ ?_; repeat (with_reducible first | exact Far.refl _ _ | refine Far.set1 ?_ _ _)⟩⟩
        · have e3 : decide (((l.length : Nat) : Int) ≤ 4) = false := decide_eq_false g3
          have HM0 : Aside0 (¬ (0 ≤ off ∧ off < 4096 ∧ l.length ≤ 4)) := ⟨by omega⟩
          clear g1 g2 g3
          go_enter Try.func3, Try.ntmps3
          go_wp2
          go_loopg [5, 7] (min l.length 4) (fun kq v5 v7 w' => ∃ (i : Nat) (m : Bool) (P : List Int), v5 = .bool m ∧ v7 = .int .i64 (i : Int) ∧ Aside0 (i + kq = min l.length 4) ∧ Aside0 (m = true ↔ (0 ≤ off ∧ off < 4096 ∧ l.length ≤ 4) ∧ ∀ j : Nat, j < i → 0 ≤ rd l (j : Int) ∧ rd l (j : Int) < 512) ∧ Aside0 (PP l P i) ∧ Aside0 (w'.heap[w.heap.size]? = some (.cells (ints P) 24 (0, 0))) ∧ Aside0 (Far (fun x => x = w.heap.size) w w'))
          case atStart =>
            refine ⟨0, false, [0, 0, 0, 0], rfl, rfl, ⟨by omega⟩, ⟨fun h => absurd h (by decide), fun h => absurd h.1 HM0.out⟩, ⟨⟨rfl, fun j hj => ?_⟩⟩, ⟨blk_new w _⟩, ⟨Far.alloc (Far.refl _ w) _⟩⟩
            match j, hj with
            | 0, _ => rfl
            | 1, _ => rfl
            | 2, _ => rfl
            | 3, _ => rfl
          case round =>
            obtain ⟨i, m, P, rfl, rfl, HK, HM, HP, HB, HF⟩ := hrel
            cases gk with
            | zero =>
              have I4 : i = min l.length 4 := by have := HK.out; omega
              cases m with
              | true =>
                have hm := HM.out.1 rfl
                have h4 : l.length ≤ 4 := hm.1.2.2
                have il : i = l.length := by omega
                subst il
                have hfine : fine l := fun j hj => hm.2 j hj
                obtain ⟨o, eo⟩ : ∃ o : Nat, off = (o : Int) := ⟨off.toNat, by have := hm.1.1; omega⟩
                have ho : o < 4096 := by have := hm.1.2.1; omega
                have mk : va_Make.f 40 off l = some (((sp (packed o l l.length) : Nat) : Int), true) := by rw [eo]; exact make_some 40 o l ho hfine h4 (by omega)
                have pj : ∀ j : Nat, j < 4 → ∃ q : Nat, q < 512 ∧ P[j]? = some (q : Int) ∧ (q : Int) = if j < l.length then rd l (j : Int) else 0 := by
                  intro j hj
                  have h0 := HP.out.at_ j hj
                  by_cases h1 : j < l.length
                  · have h2 := hfine j h1
                    rw [if_pos h1] at h0
                    exact ⟨(rd l (j : Int)).toNat, by omega, by rw [h0]; refine congrArg some ?_; omega, by rw [if_pos h1]; omega⟩
                  · rw [if_neg h1] at h0
                    exact ⟨0, by omega, by rw [h0]; rfl, by rw [if_neg h1]; rfl⟩
                obtain ⟨qa, qa1, qa2, qa3⟩ := pj 0 (by omega)
                obtain ⟨qb, qb1, qb2, qb3⟩ := pj 1 (by omega)
                obtain ⟨qc, qc1, qc2, qc3⟩ := pj 2 (by omega)
                obtain ⟨qd, qd1, qd2, qd3⟩ := pj 3 (by omega)
                have eP : P = [(qa : Int), (qb : Int), (qc : Int), (qd : Int)] := by
                  have hl := HP.out.len
                  apply List.ext_getElem?
                  intro j
                  match j with
                  | 0 => rw [qa2]; rfl
                  | 1 => rw [qb2]; rfl
                  | 2 => rw [qc2]; rfl
                  | 3 => rw [qd2]; rfl
                  | j + 4 => rw [List.getElem?_eq_none (by omega), List.getElem?_eq_none (by simp)]
                have epk := packed_pa o l h4 qa qb qc qd qa3 qb3 qc3 qd3
                have HBB := HB.out
                rw [eP] at HBB
                have k0 := blk_cell HBB 0
                have k1 := blk_cell HBB 1
                have k2 := blk_cell HBB 2
                have k3 := blk_cell HBB 3
                replace k0 : wr.cell? ⟨w.heap.size, 0, none⟩ = some (.int .i64 (qa : Int)) := k0
                replace k1 : wr.cell? ⟨w.heap.size, 1, none⟩ = some (.int .i64 (qb : Int)) := k1
                replace k2 : wr.cell? ⟨w.heap.size, 2, none⟩ = some (.int .i64 (qc : Int)) := k2
                replace k3 : wr.cell? ⟨w.heap.size, 3, none⟩ = some (.int .i64 (qd : Int)) := k3
                have RM := fun W => refmake_calls o qa qb qc qd ho qa1 qb1 qc1 qd1 W
                rw [← epk] at RM
                obtain ⟨z, ez⟩ : ∃ z : Int, ((sp (packed o l l.length) : Nat) : Int) = z := ⟨_, rfl⟩
                rw [ez] at mk
                simp only [ez] at RM
                rw [eo] at mk ⊢
                have VMK := fun W (h : Kd.C (Kd.int .i64) W A l.length l) => va_Make.calls 40 (o : Int) A c l z true W h hc.out mk
                replace RM := Aside0.mk RM
                replace VMK := Aside0.mk VMK
                have HC := Aside0.mk (Kd.C_below hC.out (HF.out.below (Nat.le_refl _) (fun i hi => by omega)))
                have k0' : ∀ n, (wr.drewN n).cell? ⟨w.heap.size, 0, none⟩ = some (.int .i64 (qa : Int)) := fun n => k0
                have k1' : ∀ n, (wr.drewN n).cell? ⟨w.heap.size, 1, none⟩ = some (.int .i64 (qb : Int)) := fun n => k1
                have k2' : ∀ n, (wr.drewN n).cell? ⟨w.heap.size, 2, none⟩ = some (.int .i64 (qc : Int)) := fun n => k2
                have k3' : ∀ n, (wr.drewN n).cell? ⟨w.heap.size, 3, none⟩ = some (.int .i64 (qd : Int)) := fun n => k3
                have il1 : decide (((l.length : Nat) : Int) < ((l.length : Nat) : Int)) = false := decide_eq_false (by omega)
                clear hm hfine mk pj qa1 qa2 qa3 qb1 qb2 qb3 qc1 qc2 qc3 qd1 qd2 qd3 eP epk HBB ez I4 h4 ho eo HM HP
                go_wp2_with (first | (go_at_call 8; refine (VMK.out _ HC.out).mono ?_; rintro e w2 ⟨rfl, ⟨n2, rfl⟩⟩) | (go_at_call 9; refine (RM.out _).mono ?_; rintro e w3 ⟨rfl, b3⟩; replace b3 := Aside0.mk b3) | (go_at_call 7; refine (HL.out _).mono ?_; rintro e w7 ⟨rfl, b7⟩; replace b7 := Aside0.mk b7))
                go_returns
                exact ⟨rfl, ((((HF.out.drewN n2).then_ (Far.of_below b3.out)).then_ (Far.of_below b7.out))).below (Nat.le_refl _) (fun i hi => by omega)⟩
              | false =>
                have hno : ¬ mayM off l := by
                  rintro ⟨h1, h2, h3, h4⟩
                  have := HM.out.2 ⟨⟨h1, h2, h3⟩, fun j hj => h4 j (by omega)⟩
                  exact absurd this (by decide)
                have mk := make_none off l hno
                have VMK := fun W (h : Kd.C (Kd.int .i64) W A l.length l) => va_Make.calls 40 off A c l 0 false W h hc.out mk
                replace VMK := Aside0.mk VMK
                have HC := Aside0.mk (Kd.C_below hC.out (HF.out.below (Nat.le_refl _) (fun i hi => by omega)))
                by_cases h4 : l.length ≤ 4
                · have il1 : decide ((i : Int) < ((l.length : Nat) : Int)) = false := decide_eq_false (by omega)
                  have il1n : decide (i < l.length) = false := decide_eq_false (by omega)
                  clear hno mk I4 h4 HM HP
                  go_wp2_with (first | (go_at_call 8; refine (VMK.out _ HC.out).mono ?_; rintro e w2 ⟨rfl, ⟨n2, rfl⟩⟩) | (go_at_call 7; refine (HL.out _).mono ?_; rintro e w7 ⟨rfl, b7⟩; replace b7 := Aside0.mk b7))
                  go_returns
                  exact ⟨rfl, (((HF.out.drewN n2).then_ (Far.of_below b7.out))).below (Nat.le_refl _) (fun i hi => by omega)⟩
                · have il1 : decide ((i : Int) < ((l.length : Nat) : Int)) = true := decide_eq_true (by omega)
                  have il1n : decide (i < l.length) = true := decide_eq_true (by omega)
                  have il2 : decide ((i : Int) < 4) = false := decide_eq_false (by omega)
                  have il2n : decide (i < 4) = false := decide_eq_false (by omega)
                  clear hno mk I4 h4 HM HP
                  go_wp2_with (first | (go_at_call 8; refine (VMK.out _ HC.out).mono ?_; rintro e w2 ⟨rfl, ⟨n2, rfl⟩⟩) | (go_at_call 7; refine (HL.out _).mono ?_; rintro e w7 ⟨rfl, b7⟩; replace b7 := Aside0.mk b7))
                  go_returns
                  exact ⟨rfl, (((HF.out.drewN n2).then_ (Far.of_below b7.out))).below (Nat.le_refl _) (fun i hi => by omega)⟩
            | succ k1 =>
              have hi : i < l.length := by have := HK.out; omega
              have hi4 : i < 4 := by have := HK.out; omega
              have il1 : decide ((i : Int) < ((l.length : Nat) : Int)) = true := decide_eq_true (by omega)
              have il1n : decide (i < l.length) = true := decide_eq_true (by omega)
              have il2 : decide ((i : Int) < 4) = true := decide_eq_true (by omega)
              have il2n : decide (i < 4) = true := decide_eq_true (by omega)
              have il0 : decide (0 ≤ (i : Int)) = true := decide_eq_true (by omega)
              have hq : (i : Int) < (l.length : Int) := by omega
              have ei := Aside0.mk (w64s i (by omega))
              obtain ⟨ad, eA, hcl⟩ := elem_at (Kd.C_below hC.out (HF.out.below (Nat.le_refl _) (fun i hi => by omega))) i hi
              subst eA
              have erd : rd l (i : Int) = l[i] := by unfold rd; simp [hi]
              rw [← erd] at hcl
              obtain ⟨y, ey⟩ : ∃ y, rd l (i : Int) = y := ⟨_, rfl⟩
              have HP' := HP.out.step hi4
              rw [ey] at hcl HP'
              replace HP' := Aside0.mk HP'
              have fz : wr.frozen? ⟨w.heap.size, i, none⟩ = false := blk_frozen HB.out _
              obtain ⟨pv, hpv⟩ : ∃ v, P[i]? = some v := ⟨_, HP.out.at_ i hi4⟩
              have cpv : wr.cell? ⟨w.heap.size, i, none⟩ = some (.int .i64 pv) := by rw [blk_cell HB.out]; unfold ints; simp [hpv]
              have stepM : ((0 ≤ off ∧ off < 4096 ∧ l.length ≤ 4) ∧ ∀ j : Nat, j < i + 1 → 0 ≤ rd l (j : Int) ∧ rd l (j : Int) < 512) ↔ (m = true ∧ 0 ≤ y ∧ y < 512) := by
                rw [HM.out]
                constructor
                · rintro ⟨h1, h2⟩
                  have h3 := h2 i (by omega)
                  rw [ey] at h3
                  exact ⟨⟨h1, fun j hj => h2 j (by omega)⟩, h3⟩
                · rintro ⟨⟨h1, h2⟩, h3⟩
                  refine ⟨h1, fun j hj => ?_⟩
                  by_cases e : j = i
                  · subst e; rw [ey]; exact h3
                  · exact h2 j (by omega)
              replace stepM := Aside0.mk stepM
              replace hi := Aside0.mk hi
              replace hpv := Aside0.mk hpv
              replace erd := Aside0.mk erd
              replace ey := Aside0.mk ey
              cases m with
              | false =>
                go_wp2
                go_roundg k1
                case measure => have := HK.out; omega
                case rel => exact ⟨i + 1, false, _, rfl, by first | rfl | exact congrArg (Value.int .i64) ei.out | simp, ⟨by have := HK.out; omega⟩, ⟨by rw [stepM.out]; exact ⟨fun h => absurd h (by decide), fun h => absurd h.1 (by decide)⟩⟩, HP', ⟨ints_set24 HB.out _ _⟩, ⟨by refine HF.out.then_ ?_; repeat (with_reducible first | exact Far.refl _ _ | refine Far.set1 ?_ _ _)⟩⟩
              | true =>
                by_cases y0 : y ≥ 0
                · have dy0 : decide (y ≥ 0) = true := decide_eq_true y0
                  by_cases y5 : y < 512
                  · have dy5 : decide (y < 512) = true := decide_eq_true y5
                    replace y0 := Aside0.mk y0
                    replace y5 := Aside0.mk y5
                    go_wp2
                    go_roundg k1
                    case measure => have := HK.out; omega
                    case rel => exact ⟨i + 1, true, _, rfl, by first | rfl | exact congrArg (Value.int .i64) ei.out | simp, ⟨by have := HK.out; omega⟩, ⟨by rw [stepM.out]; exact ⟨fun _ => ⟨by trivial, y0.out, y5.out⟩, fun _ => rfl⟩⟩, HP', ⟨ints_set24 HB.out _ _⟩, ⟨by refine HF.out.then_ ?_; repeat (with_reducible first | exact Far.refl _ _ | refine Far.set1 ?_ _ _)⟩⟩
                  · have dy5 : decide (y < 512) = false := decide_eq_false y5
                    replace y0 := Aside0.mk y0
                    replace y5 := Aside0.mk y5
                    go_wp2
                    go_roundg k1
                    case measure => have := HK.out; omega
                    case rel => exact ⟨i + 1, false, _, rfl, by first | rfl | exact congrArg (Value.int .i64) ei.out | simp, ⟨by have := HK.out; omega⟩, ⟨by rw [stepM.out]; exact ⟨fun h => absurd h (by decide), fun h => by have h1 := h.2.2; have h2 := y5.out; exact absurd h1 (by omega)⟩⟩, HP', ⟨ints_set24 HB.out _ _⟩, ⟨by refine HF.out.then_ ?_; repeat (with_reducible first | exact Far.refl _ _ | refine Far.set1 ?_ _ _)⟩⟩
                · have dy0 : decide (y ≥ 0) = false := decide_eq_false y0
                  replace y0 := Aside0.mk y0
                  go_wp2
                  go_roundg k1
                  case measure => have := HK.out; omega
                  case rel => exact ⟨i + 1, false, _, rfl, by first | rfl | exact congrArg (Value.int .i64) ei.out | simp, ⟨by have := HK.out; omega⟩, ⟨by rw [stepM.out]; exact ⟨fun h => absurd h (by decide), fun h => by have h1 := h.2.1; have h2 := y0.out; exact absurd h1 (by omega)⟩⟩, HP', ⟨ints_set24 HB.out _ _⟩, ⟨by refine HF.out.then_ ?_; repeat (with_reducible first | exact Far.refl _ _ | refine Far.set1 ?_ _ _)⟩⟩
      · have e2 : decide (off < 4096) = false := decide_eq_false g2
        have HM0 : Aside0 (¬ (0 ≤ off ∧ off < 4096 ∧ l.length ≤ 4)) := ⟨by omega⟩
        clear g1 g2
        go_enter Try.func3, Try.ntmps3
        go_wp2
        go_loopg [5, 7] (min l.length 4) (fun kq v5 v7 w' => ∃ (i : Nat) (m : Bool) (P : List Int), v5 = .bool m ∧ v7 = .int .i64 (i : Int) ∧ Aside0 (i + kq = min l.length 4) ∧ Aside0 (m = true ↔ (0 ≤ off ∧ off < 4096 ∧ l.length ≤ 4) ∧ ∀ j : Nat, j < i → 0 ≤ rd l (j : Int) ∧ rd l (j : Int) < 512) ∧ Aside0 (PP l P i) ∧ Aside0 (w'.heap[w.heap.size]? = some (.cells (ints P) 24 (0, 0))) ∧ Aside0 (Far (fun x => x = w.heap.size) w w'))
        case atStart =>
          refine ⟨0, false, [0, 0, 0, 0], rfl, rfl, ⟨by omega⟩, ⟨fun h => absurd h (by decide), fun h => absurd h.1 HM0.out⟩, ⟨⟨rfl, fun j hj => ?_⟩⟩, ⟨blk_new w _⟩, ⟨Far.alloc (Far.refl _ w) _⟩⟩
          match j, hj with
          | 0, _ => rfl
          | 1, _ => rfl
          | 2, _ => rfl
          | 3, _ => rfl
        case round =>
          obtain ⟨i, m, P, rfl, rfl, HK, HM, HP, HB, HF⟩ := hrel
          cases gk with
          | zero =>
            have I4 : i = min l.length 4 := by have := HK.out; omega
            cases m with
            | true =>
              have hm := HM.out.1 rfl
              have h4 : l.length ≤ 4 := hm.1.2.2
              have il : i = l.length := by omega
              subst il
              have hfine : fine l := fun j hj => hm.2 j hj
              obtain ⟨o, eo⟩ : ∃ o : Nat, off = (o : Int) := ⟨off.toNat, by have := hm.1.1; omega⟩
              have ho : o < 4096 := by have := hm.1.2.1; omega
              have mk : va_Make.f 40 off l = some (((sp (packed o l l.length) : Nat) : Int), true) := by rw [eo]; exact make_some 40 o l ho hfine h4 (by omega)
              have pj : ∀ j : Nat, j < 4 → ∃ q : Nat, q < 512 ∧ P[j]? = some (q : Int) ∧ (q : Int) = if j < l.length then rd l (j : Int) else 0 := by
                intro j hj
                have h0 := HP.out.at_ j hj
                by_cases h1 : j < l.length
                · have h2 := hfine j h1
                  rw [if_pos h1] at h0
                  exact ⟨(rd l (j : Int)).toNat, by omega, by rw [h0]; refine congrArg some ?_; omega, by rw [if_pos h1]; omega⟩
                · rw [if_neg h1] at h0
                  exact ⟨0, by omega, by rw [h0]; rfl, by rw [if_neg h1]; rfl⟩
              obtain ⟨qa, qa1, qa2, qa3⟩ := pj 0 (by omega)
              obtain ⟨qb, qb1, qb2, qb3⟩ := pj 1 (by omega)
              obtain ⟨qc, qc1, qc2, qc3⟩ := pj 2 (by omega)
              obtain ⟨qd, qd1, qd2, qd3⟩ := pj 3 (by omega)
              have eP : P = [(qa : Int), (qb : Int), (qc : Int), (qd : Int)] := by
                have hl := HP.out.len
                apply List.ext_getElem?
                intro j
                match j with
                | 0 => rw [qa2]; rfl
                | 1 => rw [qb2]; rfl
                | 2 => rw [qc2]; rfl
                | 3 => rw [qd2]; rfl
                | j + 4 => rw [List.getElem?_eq_none (by omega), List.getElem?_eq_none (by simp)]
              have epk := packed_pa o l h4 qa qb qc qd qa3 qb3 qc3 qd3
              have HBB := HB.out
              rw [eP] at HBB
              have k0 := blk_cell HBB 0
              have k1 := blk_cell HBB 1
              have k2 := blk_cell HBB 2
              have k3 := blk_cell HBB 3
              replace k0 : wr.cell? ⟨w.heap.size, 0, none⟩ = some (.int .i64 (qa : Int)) := k0
              replace k1 : wr.cell? ⟨w.heap.size, 1, none⟩ = some (.int .i64 (qb : Int)) := k1
              replace k2 : wr.cell? ⟨w.heap.size, 2, none⟩ = some (.int .i64 (qc : Int)) := k2
              replace k3 : wr.cell? ⟨w.heap.size, 3, none⟩ = some (.int .i64 (qd : Int)) := k3
              have RM := fun W => refmake_calls o qa qb qc qd ho qa1 qb1 qc1 qd1 W
              rw [← epk] at RM
              obtain ⟨z, ez⟩ : ∃ z : Int, ((sp (packed o l l.length) : Nat) : Int) = z := ⟨_, rfl⟩
              rw [ez] at mk
              simp only [ez] at RM
              rw [eo] at mk ⊢
              have VMK := fun W (h : Kd.C (Kd.int .i64) W A l.length l) => va_Make.calls 40 (o : Int) A c l z true W h hc.out mk
              replace RM := Aside0.mk RM
              replace VMK := Aside0.mk VMK
              have HC := Aside0.mk (Kd.C_below hC.out (HF.out.below (Nat.le_refl _) (fun i hi => by omega)))
              have k0' : ∀ n, (wr.drewN n).cell? ⟨w.heap.size, 0, none⟩ = some (.int .i64 (qa : Int)) := fun n => k0
              have k1' : ∀ n, (wr.drewN n).cell? ⟨w.heap.size, 1, none⟩ = some (.int .i64 (qb : Int)) := fun n => k1
              have k2' : ∀ n, (wr.drewN n).cell? ⟨w.heap.size, 2, none⟩ = some (.int .i64 (qc : Int)) := fun n => k2
              have k3' : ∀ n, (wr.drewN n).cell? ⟨w.heap.size, 3, none⟩ = some (.int .i64 (qd : Int)) := fun n => k3
              have il1 : decide (((l.length : Nat) : Int) < ((l.length : Nat) : Int)) = false := decide_eq_false (by omega)
              clear hm hfine mk pj qa1 qa2 qa3 qb1 qb2 qb3 qc1 qc2 qc3 qd1 qd2 qd3 eP epk HBB ez I4 h4 ho eo HM HP
              go_wp2_with (first | (go_at_call 8; refine (VMK.out _ HC.out).mono ?_; rintro e w2 ⟨rfl, ⟨n2, rfl⟩⟩) | (go_at_call 9; refine (RM.out _).mono ?_; rintro e w3 ⟨rfl, b3⟩; replace b3 := Aside0.mk b3) | (go_at_call 7; refine (HL.out _).mono ?_; rintro e w7 ⟨rfl, b7⟩; replace b7 := Aside0.mk b7))
              go_returns
              exact ⟨rfl, ((((HF.out.drewN n2).then_ (Far.of_below b3.out)).then_ (Far.of_below b7.out))).below (Nat.le_refl _) (fun i hi => by omega)⟩
            | false =>
              have hno : ¬ mayM off l := by
                rintro ⟨h1, h2, h3, h4⟩
                have := HM.out.2 ⟨⟨h1, h2, h3⟩, fun j hj => h4 j (by omega)⟩
                exact absurd this (by decide)
              have mk := make_none off l hno
              have VMK := fun W (h : Kd.C (Kd.int .i64) W A l.length l) => va_Make.calls 40 off A c l 0 false W h hc.out mk
              replace VMK := Aside0.mk VMK
              have HC := Aside0.mk (Kd.C_below hC.out (HF.out.below (Nat.le_refl _) (fun i hi => by omega)))
              by_cases h4 : l.length ≤ 4
              · have il1 : decide ((i : Int) < ((l.length : Nat) : Int)) = false := decide_eq_false (by omega)
                have il1n : decide (i < l.length) = false := decide_eq_false (by omega)
                clear hno mk I4 h4 HM HP
                go_wp2_with (first | (go_at_call 8; refine (VMK.out _ HC.out).mono ?_; rintro e w2 ⟨rfl, ⟨n2, rfl⟩⟩) | (go_at_call 7; refine (HL.out _).mono ?_; rintro e w7 ⟨rfl, b7⟩; replace b7 := Aside0.mk b7))
                go_returns
                exact ⟨rfl, (((HF.out.drewN n2).then_ (Far.of_below b7.out))).below (Nat.le_refl _) (fun i hi => by omega)⟩
              · have il1 : decide ((i : Int) < ((l.length : Nat) : Int)) = true := decide_eq_true (by omega)
                have il1n : decide (i < l.length) = true := decide_eq_true (by omega)
                have il2 : decide ((i : Int) < 4) = false := decide_eq_false (by omega)
                have il2n : decide (i < 4) = false := decide_eq_false (by omega)
                clear hno mk I4 h4 HM HP
                go_wp2_with (first | (go_at_call 8; refine (VMK.out _ HC.out).mono ?_; rintro e w2 ⟨rfl, ⟨n2, rfl⟩⟩) | (go_at_call 7; refine (HL.out _).mono ?_; rintro e w7 ⟨rfl, b7⟩; replace b7 := Aside0.mk b7))
                go_returns
                exact ⟨rfl, (((HF.out.drewN n2).then_ (Far.of_below b7.out))).below (Nat.le_refl _) (fun i hi => by omega)⟩
          | succ k1 =>
            have hi : i < l.length := by have := HK.out; omega
            have hi4 : i < 4 := by have := HK.out; omega
            have il1 : decide ((i : Int) < ((l.length : Nat) : Int)) = true := decide_eq_true (by omega)
            have il1n : decide (i < l.length) = true := decide_eq_true (by omega)
            have il2 : decide ((i : Int) < 4) = true := decide_eq_true (by omega)
            have il2n : decide (i < 4) = true := decide_eq_true (by omega)
            have il0 : decide (0 ≤ (i : Int)) = true := decide_eq_true (by omega)
            have hq : (i : Int) < (l.length : Int) := by omega
            have ei := Aside0.mk (w64s i (by omega))
            obtain ⟨ad, eA, hcl⟩ := elem_at (Kd.C_below hC.out (HF.out.below (Nat.le_refl _) (fun i hi => by omega))) i hi
            subst eA
            have erd : rd l (i : Int) = l[i] := by unfold rd; simp [hi]
            rw [← erd] at hcl
            obtain ⟨y, ey⟩ : ∃ y, rd l (i : Int) = y := ⟨_, rfl⟩
            have HP' := HP.out.step hi4
            rw [ey] at hcl HP'
            replace HP' := Aside0.mk HP'
            have fz : wr.frozen? ⟨w.heap.size, i, none⟩ = false := blk_frozen HB.out _
            obtain ⟨pv, hpv⟩ : ∃ v, P[i]? = some v := ⟨_, HP.out.at_ i hi4⟩
            have cpv : wr.cell? ⟨w.heap.size, i, none⟩ = some (.int .i64 pv) := by rw [blk_cell HB.out]; unfold ints; simp [hpv]
            have stepM : ((0 ≤ off ∧ off < 4096 ∧ l.length ≤ 4) ∧ ∀ j : Nat, j < i + 1 → 0 ≤ rd l (j : Int) ∧ rd l (j : Int) < 512) ↔ (m = true ∧ 0 ≤ y ∧ y < 512) := by
              rw [HM.out]
              constructor
              · rintro ⟨h1, h2⟩
                have h3 := h2 i (by omega)
                rw [ey] at h3
                exact ⟨⟨h1, fun j hj => h2 j (by omega)⟩, h3⟩
              · rintro ⟨⟨h1, h2⟩, h3⟩
                refine ⟨h1, fun j hj => ?_⟩
                by_cases e : j = i
                · subst e; rw [ey]; exact h3
                · exact h2 j (by omega)
            replace stepM := Aside0.mk stepM
            replace hi := Aside0.mk hi
            replace hpv := Aside0.mk hpv
            replace erd := Aside0.mk erd
            replace ey := Aside0.mk ey
            cases m with
            | false =>
              go_wp2
              go_roundg k1
              case measure => have := HK.out; omega
              case rel => exact ⟨i + 1, false, _, rfl, by first | rfl | exact congrArg (Value.int .i64) ei.out | simp, ⟨by have := HK.out; omega⟩, ⟨by rw [stepM.out]; exact ⟨fun h => absurd h (by decide), fun h => absurd h.1 (by decide)⟩⟩, HP', ⟨ints_set24 HB.out _ _⟩, ⟨by refine HF.out.then_ ?_; repeat (with_reducible first | exact Far.refl _ _ | refine Far.set1 ?_ _ _)⟩⟩
            | true =>
              by_cases y0 : y ≥ 0
              · have dy0 : decide (y ≥ 0) = true := decide_eq_true y0
                by_cases y5 : y < 512
                · have dy5 : decide (y < 512) = true := decide_eq_true y5
                  replace y0 := Aside0.mk y0
                  replace y5 := Aside0.mk y5
                  go_wp2
                  go_roundg k1
                  case measure => have := HK.out; omega
                  case rel => exact ⟨i + 1, true, _, rfl, by first | rfl | exact congrArg (Value.int .i64) ei.out | simp, ⟨by have := HK.out; omega⟩, ⟨by rw [stepM.out]; exact ⟨fun _ => ⟨by trivial, y0.out, y5.out⟩, fun _ => rfl⟩⟩, HP', ⟨ints_set24 HB.out _ _⟩, ⟨by refine HF.out.then_ ?_; repeat (with_reducible first | exact Far.refl _ _ | refine Far.set1 ?_ _ _)⟩⟩
                · have dy5 : decide (y < 512) = false := decide_eq_false y5
                  replace y0 := Aside0.mk y0
                  replace y5 := Aside0.mk y5
                  go_wp2
                  go_roundg k1
                  case measure => have := HK.out; omega
                  case rel => exact ⟨i + 1, false, _, rfl, by first | rfl | exact congrArg (Value.int .i64) ei.out | simp, ⟨by have := HK.out; omega⟩, ⟨by rw [stepM.out]; exact ⟨fun h => absurd h (by decide), fun h => by have h1 := h.2.2; have h2 := y5.out; exact absurd h1 (by omega)⟩⟩, HP', ⟨ints_set24 HB.out _ _⟩, ⟨by refine HF.out.then_ ?_; repeat (with_reducible first | exact Far.refl _ _ | refine Far.set1 ?_ _ _)⟩⟩
              · have dy0 : decide (y ≥ 0) = false := decide_eq_false y0
                replace y0 := Aside0.mk y0
                go_wp2
                go_roundg k1
                case measure => have := HK.out; omega
                case rel => exact ⟨i + 1, false, _, rfl, by first | rfl | exact congrArg (Value.int .i64) ei.out | simp, ⟨by have := HK.out; omega⟩, ⟨by rw [stepM.out]; exact ⟨fun h => absurd h (by decide), fun h => by have h1 := h.2.1; have h2 := y0.out; exact absurd h1 (by omega)⟩⟩, HP', ⟨ints_set24 HB.out _ _⟩, ⟨by refine HF.out.then_ ?_; repeat (with_reducible first | exact Far.refl _ _ | refine Far.set1 ?_ _ _)⟩⟩
    · have e1 : decide (off ≥ 0) = false := decide_eq_false g1
      have HM0 : Aside0 (¬ (0 ≤ off ∧ off < 4096 ∧ l.length ≤ 4)) := ⟨by omega⟩
      clear g1
      go_enter Try.func3, Try.ntmps3
      go_wp2
      go_loopg [5, 7] (min l.length 4) (fun kq v5 v7 w' => ∃ (i : Nat) (m : Bool) (P : List Int), v5 = .bool m ∧ v7 = .int .i64 (i : Int) ∧ Aside0 (i + kq = min l.length 4) ∧ Aside0 (m = true ↔ (0 ≤ off ∧ off < 4096 ∧ l.length ≤ 4) ∧ ∀ j : Nat, j < i → 0 ≤ rd l (j : Int) ∧ rd l (j : Int) < 512) ∧ Aside0 (PP l P i) ∧ Aside0 (w'.heap[w.heap.size]? = some (.cells (ints P) 24 (0, 0))) ∧ Aside0 (Far (fun x => x = w.heap.size) w w'))
      case atStart =>
        refine ⟨0, false, [0, 0, 0, 0], rfl, rfl, ⟨by omega⟩, ⟨fun h => absurd h (by decide), fun h => absurd h.1 HM0.out⟩, ⟨⟨rfl, fun j hj => ?_⟩⟩, ⟨blk_new w _⟩, ⟨Far.alloc (Far.refl _ w) _⟩⟩
        match j, hj with
        | 0, _ => rfl
        | 1, _ => rfl
        | 2, _ => rfl
        | 3, _ => rfl
      case round =>
        obtain ⟨i, m, P, rfl, rfl, HK, HM, HP, HB, HF⟩ := hrel
        cases gk with
        | zero =>
          have I4 : i = min l.length 4 := by have := HK.out; omega
          cases m with
          | true =>
            have hm := HM.out.1 rfl
            have h4 : l.length ≤ 4 := hm.1.2.2
            have il : i = l.length := by omega
            subst il
            have hfine : fine l := fun j hj => hm.2 j hj
            obtain ⟨o, eo⟩ : ∃ o : Nat, off = (o : Int) := ⟨off.toNat, by have := hm.1.1; omega⟩
            have ho : o < 4096 := by have := hm.1.2.1; omega
            have mk : va_Make.f 40 off l = some (((sp (packed o l l.length) : Nat) : Int), true) := by rw [eo]; exact make_some 40 o l ho hfine h4 (by omega)
            have pj : ∀ j : Nat, j < 4 → ∃ q : Nat, q < 512 ∧ P[j]? = some (q : Int) ∧ (q : Int) = if j < l.length then rd l (j : Int) else 0 := by
              intro j hj
              have h0 := HP.out.at_ j hj
              by_cases h1 : j < l.length
              · have h2 := hfine j h1
                rw [if_pos h1] at h0
                exact ⟨(rd l (j : Int)).toNat, by omega, by rw [h0]; refine congrArg some ?_; omega, by rw [if_pos h1]; omega⟩
              · rw [if_neg h1] at h0
                exact ⟨0, by omega, by rw [h0]; rfl, by rw [if_neg h1]; rfl⟩
            obtain ⟨qa, qa1, qa2, qa3⟩ := pj 0 (by omega)
            obtain ⟨qb, qb1, qb2, qb3⟩ := pj 1 (by omega)
            obtain ⟨qc, qc1, qc2, qc3⟩ := pj 2 (by omega)
            obtain ⟨qd, qd1, qd2, qd3⟩ := pj 3 (by omega)
            have eP : P = [(qa : Int), (qb : Int), (qc : Int), (qd : Int)] := by
              have hl := HP.out.len
              apply List.ext_getElem?
              intro j
              match j with
              | 0 => rw [qa2]; rfl
              | 1 => rw [qb2]; rfl
              | 2 => rw [qc2]; rfl
              | 3 => rw [qd2]; rfl
              | j + 4 => rw [List.getElem?_eq_none (by omega), List.getElem?_eq_none (by simp)]
            have epk := packed_pa o l h4 qa qb qc qd qa3 qb3 qc3 qd3
            have HBB := HB.out
            rw [eP] at HBB
            have k0 := blk_cell HBB 0
            have k1 := blk_cell HBB 1
            have k2 := blk_cell HBB 2
            have k3 := blk_cell HBB 3
            replace k0 : wr.cell? ⟨w.heap.size, 0, none⟩ = some (.int .i64 (qa : Int)) := k0
            replace k1 : wr.cell? ⟨w.heap.size, 1, none⟩ = some (.int .i64 (qb : Int)) := k1
            replace k2 : wr.cell? ⟨w.heap.size, 2, none⟩ = some (.int .i64 (qc : Int)) := k2
            replace k3 : wr.cell? ⟨w.heap.size, 3, none⟩ = some (.int .i64 (qd : Int)) := k3
            have RM := fun W => refmake_calls o qa qb qc qd ho qa1 qb1 qc1 qd1 W
            rw [← epk] at RM
            obtain ⟨z, ez⟩ : ∃ z : Int, ((sp (packed o l l.length) : Nat) : Int) = z := ⟨_, rfl⟩
            rw [ez] at mk
            simp only [ez] at RM
            rw [eo] at mk ⊢
            have VMK := fun W (h : Kd.C (Kd.int .i64) W A l.length l) => va_Make.calls 40 (o : Int) A c l z true W h hc.out mk
            replace RM := Aside0.mk RM
            replace VMK := Aside0.mk VMK
            have HC := Aside0.mk (Kd.C_below hC.out (HF.out.below (Nat.le_refl _) (fun i hi => by omega)))
            have k0' : ∀ n, (wr.drewN n).cell? ⟨w.heap.size, 0, none⟩ = some (.int .i64 (qa : Int)) := fun n => k0
            have k1' : ∀ n, (wr.drewN n).cell? ⟨w.heap.size, 1, none⟩ = some (.int .i64 (qb : Int)) := fun n => k1
            have k2' : ∀ n, (wr.drewN n).cell? ⟨w.heap.size, 2, none⟩ = some (.int .i64 (qc : Int)) := fun n => k2
            have k3' : ∀ n, (wr.drewN n).cell? ⟨w.heap.size, 3, none⟩ = some (.int .i64 (qd : Int)) := fun n => k3
            have il1 : decide (((l.length : Nat) : Int) < ((l.length : Nat) : Int)) = false := decide_eq_false (by omega)
            clear hm hfine mk pj qa1 qa2 qa3 qb1 qb2 qb3 qc1 qc2 qc3 qd1 qd2 qd3 eP epk HBB ez I4 h4 ho eo HM HP
            go_wp2_with (first | (go_at_call 8; refine (VMK.out _ HC.out).mono ?_; rintro e w2 ⟨rfl, ⟨n2, rfl⟩⟩) | (go_at_call 9; refine (RM.out _).mono ?_; rintro e w3 ⟨rfl, b3⟩; replace b3 := Aside0.mk b3) | (go_at_call 7; refine (HL.out _).mono ?_; rintro e w7 ⟨rfl, b7⟩; replace b7 := Aside0.mk b7))
            go_returns
            exact ⟨rfl, ((((HF.out.drewN n2).then_ (Far.of_below b3.out)).then_ (Far.of_below b7.out))).below (Nat.le_refl _) (fun i hi => by omega)⟩
          | false =>
            have hno : ¬ mayM off l := by
              rintro ⟨h1, h2, h3, h4⟩
              have := HM.out.2 ⟨⟨h1, h2, h3⟩, fun j hj => h4 j (by omega)⟩
              exact absurd this (by decide)
            have mk := make_none off l hno
            have VMK := fun W (h : Kd.C (Kd.int .i64) W A l.length l) => va_Make.calls 40 off A c l 0 false W h hc.out mk
            replace VMK := Aside0.mk VMK
            have HC := Aside0.mk (Kd.C_below hC.out (HF.out.below (Nat.le_refl _) (fun i hi => by omega)))
            by_cases h4 : l.length ≤ 4
            · have il1 : decide ((i : Int) < ((l.length : Nat) : Int)) = false := decide_eq_false (by omega)
              have il1n : decide (i < l.length) = false := decide_eq_false (by omega)
              clear hno mk I4 h4 HM HP
              go_wp2_with (first | (go_at_call 8; refine (VMK.out _ HC.out).mono ?_; rintro e w2 ⟨rfl, ⟨n2, rfl⟩⟩) | (go_at_call 7; refine (HL.out _).mono ?_; rintro e w7 ⟨rfl, b7⟩; replace b7 := Aside0.mk b7))
              go_returns
              exact ⟨rfl, (((HF.out.drewN n2).then_ (Far.of_below b7.out))).below (Nat.le_refl _) (fun i hi => by omega)⟩
            · have il1 : decide ((i : Int) < ((l.length : Nat) : Int)) = true := decide_eq_true (by omega)
              have il1n : decide (i < l.length) = true := decide_eq_true (by omega)
              have il2 : decide ((i : Int) < 4) = false := decide_eq_false (by omega)
              have il2n : decide (i < 4) = false := decide_eq_false (by omega)
              clear hno mk I4 h4 HM HP
              go_wp2_with (first | (go_at_call 8; refine (VMK.out _ HC.out).mono ?_; rintro e w2 ⟨rfl, ⟨n2, rfl⟩⟩) | (go_at_call 7; refine (HL.out _).mono ?_; rintro e w7 ⟨rfl, b7⟩; replace b7 := Aside0.mk b7))
              go_returns
              exact ⟨rfl, (((HF.out.drewN n2).then_ (Far.of_below b7.out))).below (Nat.le_refl _) (fun i hi => by omega)⟩
        | succ k1 =>
          have hi : i < l.length := by have := HK.out; omega
          have hi4 : i < 4 := by have := HK.out; omega
          have il1 : decide ((i : Int) < ((l.length : Nat) : Int)) = true := decide_eq_true (by omega)
          have il1n : decide (i < l.length) = true := decide_eq_true (by omega)
          have il2 : decide ((i : Int) < 4) = true := decide_eq_true (by omega)
          have il2n : decide (i < 4) = true := decide_eq_true (by omega)
          have il0 : decide (0 ≤ (i : Int)) = true := decide_eq_true (by omega)
          have hq : (i : Int) < (l.length : Int) := by omega
          have ei := Aside0.mk (w64s i (by omega))
          obtain ⟨ad, eA, hcl⟩ := elem_at (Kd.C_below hC.out (HF.out.below (Nat.le_refl _) (fun i hi => by omega))) i hi
          subst eA
          have erd : rd l (i : Int) = l[i] := by unfold rd; simp [hi]
          rw [← erd] at hcl
          obtain ⟨y, ey⟩ : ∃ y, rd l (i : Int) = y := ⟨_, rfl⟩
          have HP' := HP.out.step hi4
          rw [ey] at hcl HP'
          replace HP' := Aside0.mk HP'
          have fz : wr.frozen? ⟨w.heap.size, i, none⟩ = false := blk_frozen HB.out _
          obtain ⟨pv, hpv⟩ : ∃ v, P[i]? = some v := ⟨_, HP.out.at_ i hi4⟩
          have cpv : wr.cell? ⟨w.heap.size, i, none⟩ = some (.int .i64 pv) := by rw [blk_cell HB.out]; unfold ints; simp [hpv]
          have stepM : ((0 ≤ off ∧ off < 4096 ∧ l.length ≤ 4) ∧ ∀ j : Nat, j < i + 1 → 0 ≤ rd l (j : Int) ∧ rd l (j : Int) < 512) ↔ (m = true ∧ 0 ≤ y ∧ y < 512) := by
            rw [HM.out]
            constructor
            · rintro ⟨h1, h2⟩
              have h3 := h2 i (by omega)
              rw [ey] at h3
              exact ⟨⟨h1, fun j hj => h2 j (by omega)⟩, h3⟩
            · rintro ⟨⟨h1, h2⟩, h3⟩
              refine ⟨h1, fun j hj => ?_⟩
              by_cases e : j = i
              · subst e; rw [ey]; exact h3
              · exact h2 j (by omega)
          replace stepM := Aside0.mk stepM
          replace hi := Aside0.mk hi
          replace hpv := Aside0.mk hpv
          replace erd := Aside0.mk erd
          replace ey := Aside0.mk ey
          cases m with
          | false =>
            go_wp2
            go_roundg k1
            case measure => have := HK.out; omega
            case rel => exact ⟨i + 1, false, _, rfl, by first | rfl | exact congrArg (Value.int .i64) ei.out | simp, ⟨by have := HK.out; omega⟩, ⟨by rw [stepM.out]; exact ⟨fun h => absurd h (by decide), fun h => absurd h.1 (by decide)⟩⟩, HP', ⟨ints_set24 HB.out _ _⟩, ⟨by refine HF.out.then_ ?_; repeat (with_reducible first | exact Far.refl _ _ | refine Far.set1 ?_ _ _)⟩⟩
          | true =>
            by_cases y0 : y ≥ 0
            · have dy0 : decide (y ≥ 0) = true := decide_eq_true y0
              by_cases y5 : y < 512
              · have dy5 : decide (y < 512) = true := decide_eq_true y5
                replace y0 := Aside0.mk y0
                replace y5 := Aside0.mk y5
                go_wp2
                go_roundg k1
                case measure => have := HK.out; omega
                case rel => exact ⟨i + 1, true, _, rfl, by first | rfl | exact congrArg (Value.int .i64) ei.out | simp, ⟨by have := HK.out; omega⟩, ⟨by rw [stepM.out]; exact ⟨fun _ => ⟨by trivial, y0.out, y5.out⟩, fun _ => rfl⟩⟩, HP', ⟨ints_set24 HB.out _ _⟩, ⟨by refine HF.out.then_ ?_; repeat (with_reducible first | exact Far.refl _ _ | refine Far.set1 ?_ _ _)⟩⟩
              · have dy5 : decide (y < 512) = false := decide_eq_false y5
                replace y0 := Aside0.mk y0
                replace y5 := Aside0.mk y5
                go_wp2
                go_roundg k1
                case measure => have := HK.out; omega
                case rel => exact ⟨i + 1, false, _, rfl, by first | rfl | exact congrArg (Value.int .i64) ei.out | simp, ⟨by have := HK.out; omega⟩, ⟨by rw [stepM.out]; exact ⟨fun h => absurd h (by decide), fun h => by have h1 := h.2.2; have h2 := y5.out; exact absurd h1 (by omega)⟩⟩, HP', ⟨ints_set24 HB.out _ _⟩, ⟨by refine HF.out.then_ ?_; repeat (with_reducible first | exact Far.refl _ _ | refine Far.set1 ?_ _ _)⟩⟩
            · have dy0 : decide (y ≥ 0) = false := decide_eq_false y0
              replace y0 := Aside0.mk y0
              go_wp2
              go_roundg k1
              case measure => have := HK.out; omega
              case rel => exact ⟨i + 1, false, _, rfl, by first | rfl | exact congrArg (Value.int .i64) ei.out | simp, ⟨by have := HK.out; omega⟩, ⟨by rw [stepM.out]; exact ⟨fun h => absurd h (by decide), fun h => by have h1 := h.2.1; have h2 := y0.out; exact absurd h1 (by omega)⟩⟩, HP', ⟨ints_set24 HB.out _ _⟩, ⟨by refine HF.out.then_ ?_; repeat (with_reducible first | exact Far.refl _ _ | refine Far.set1 ?_ _ _)⟩⟩

theorem makes_walk (W : World) (off : Int) (wo : (Lit.int .i64 off).wf = true) (A : Option Addr) (c : Nat) (l : List Int) (hC : Kd.C (Kd.int .i64) W A l.length l) (hle : l.length ≤ c) (hm : l.length ≤ maxLen) (hR : ∀ x ∈ l, (Lit.int .i64 x).wf = true) :
    Calls Try.prog 3 #[.int .i64 off, .slice A l.length c] W fun e w' => e = .returned (.bool true) ∧ Below W.heap.size W w' := makes_calls off A c l W hC hle

end Go.Proofs.Ytpdpkjdkafmmhaa.VM
