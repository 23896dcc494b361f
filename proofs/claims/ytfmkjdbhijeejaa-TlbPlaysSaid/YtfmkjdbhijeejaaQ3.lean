/- The document's Frames, walked by hand. -/
import Derived.Test.YtfmkjdbhijeejaaQ2
namespace Go.Proofs.Ytfmkjdbhijeejaa.Hand
set_option linter.unusedVariables false
set_option linter.unusedSimpArgs false
open Go.RowKit Go.Proofs.Ytfmkjdbhijeejaa.R Go.Proofs.YtfmkjdbhijeejaaW.PrintWords Go.Proofs.YtfmkjdbhijeejaaW.PrintMore

theorem info3 : (Try.prog.info? 3).map (fun i => (i.zero, i.size, i.bytes)) = some (some (.int .i64 0), 1, 8) := by kernel_rfl
/-- The frames below a number that are there. -/
def frK (l : List NN) (k : Nat) : List Int := ((List.range k).filter (fun f : Nat => l.any (fun y => y.frame == (f : Int)))).map (fun f : Nat => (f : Int))
theorem frK_succ (l : List NN) (k : Nat) : frK l (k + 1) = frK l k ++ if l.any (fun y => y.frame == (k : Int)) = true then [(k : Int)] else [] := by
  unfold frK
  rw [List.range_succ, List.filter_append, List.map_append]
  congr 1
  by_cases h : l.any (fun y => y.frame == (k : Int)) = true
  · simp [h]
  · simp [h]
theorem frK_length (l : List NN) (k : Nat) : (frK l k).length ≤ k := by
  unfold frK
  rw [List.length_map]
  exact Nat.le_trans (List.length_filter_le _ _) (by rw [List.length_range]; exact Nat.le_refl _)
theorem any_snoc (l : List NN) (f : Int) (i : Nat) (hi : i < l.length) : (l.take (i + 1)).any (fun y => y.frame == f) = ((l.take i).any (fun y => y.frame == f) || l[i].frame == f) := by
  rw [List.take_succ_eq_append_getElem hi, List.any_append]
  simp

set_option maxHeartbeats 8000000 in
set_option maxRecDepth 100000 in
theorem rframes_calls (A : Option Addr) (c : Nat) (l : List NN) (w : World) (hC : Kd.C kN w A l.length l) (hl : l.length ≤ 100000) :
    Calls Try.prog 21 #[.slice A l.length c] w fun e w' => ∃ v, e = .returned v ∧ Kd.R (Kd.int .i64) 3 w' w.heap.size (fun _ => True) v (framesR l) ∧ Below w.heap.size w w' := by
  replace hC := Aside0.mk hC
  replace hl := Aside0.mk hl
  go_enter Try.func21, Try.ntmps21
  go_wp2
  go_loopg [3, 4] 96 (fun kq v3 v4 w' => ∃ (i : Nat), v4 = .int .i64 (i : Int) ∧ Aside0 (i + kq = 96) ∧ Kd.R (Kd.int .i64) 3 w' w.heap.size (fun _ => True) v3 (frK l i) ∧ Aside0 (Below w.heap.size w w'))
  case atStart => exact ⟨0, rfl, ⟨by omega⟩, Kd.R_nil _ _ _ _ _, ⟨Below.refl _ w⟩⟩
  case round =>
    obtain ⟨i, rfl, HK, HR, HB⟩ := hrel
    obtain ⟨A3, c3, e3⟩ := Kd.R_slice HR
    subst e3
    replace HR := Aside0.mk HR
    cases gk with
    | zero =>
      obtain rfl : i = 96 := by have := HK.out; omega
      have hlen : (frK l 96).length = (framesR l).length := rfl
      have hR2 : Aside0 (Kd.R (Kd.int .i64) 3 wr w.heap.size (fun _ => True) (.slice A3 (frK l 96).length c3) (framesR l)) := ⟨HR.out⟩
      go_wp2
      go_returns
      exact ⟨_, rfl, hR2.out, HB.out⟩
    | succ k1 =>
      have hi : i < 96 := by have := HK.out; omega
      have i1 : (i : Int) < 96 := by omega
      have d3 : decide ((i : Int) < 96) = true := decide_eq_true (by omega)
      have d4 : decide (i < 96) = true := decide_eq_true (by omega)
      have hs := frK_succ l i
      have hfl := frK_length l i
      have hal : ((frK l i).length + 1) * 8 ≤ 140737488355328 := by omega
      replace hs := Aside0.mk hs
      replace hal := Aside0.mk hal
      replace hi := Aside0.mk hi
      clear hfl
      have ws := Aside0.mk (w64s i (by have := hi.out; omega))
      obtain ⟨w1, rfl⟩ : ∃ w1, w1 = wr := ⟨wr, rfl⟩
      go_wp2
      go_loopg [5, 6] l.length (fun kq v5 v6 w' => ∃ (k2 : Nat), v5 = .bool ((l.take k2).any (fun y => y.frame == (i : Int))) ∧ v6 = .int .i64 (k2 : Int) ∧ Aside0 (k2 + kq = l.length) ∧ w' = w1)
      case atStart => exact ⟨0, rfl, rfl, ⟨by omega⟩, rfl⟩
      case round =>
        obtain ⟨k2, rfl, rfl, HK2, rfl⟩ := hrel
        cases gk with
        | zero =>
          obtain rfl : k2 = l.length := by have := HK2.out; omega
          have d5 : decide (((l.length : Nat) : Int) < ((l.length : Nat) : Int)) = false := decide_eq_false (by omega)
          rw [List.take_length]
          generalize l.any (fun y => y.frame == (i : Int)) = b at hs ⊢
          cases b with
          | true =>
            have hs2 := hs.out
            rw [if_pos rfl] at hs2
            replace hs2 := Aside0.mk hs2
            go_wp2_with ((with_reducible refine gate_builtin (b := .append) (xs := #[.tmp 28, .tmp 30]) rfl ?_); at_builtin; refine Kd.R_append (Kd.int .i64) (w0 := w) w.heap.size rfl (.tmp 28) (.tmp 30) 34 3 (.int .i64 0) 8 rfl Try.underlying34 info3 rfl (by decide) (by omega) (.slice A3 (frK l i).length c3) (frK l i) (i : Int) [.int .i64 (i : Int)] (fun _ => True) (fun _ => False) rfl rfl ?aP (fun _ hk => hk.elim) ?aF ?aO ?aB ?aS ?aL ?_; (case aP => exact rfl); (case aB => exact HB.out); (case aF => exact (fun _ _ => trivial)); (case aO => exact HR.out); (case aS => exact HB.out.size); (case aL => exact hal.out); intro v4 w4 ho4 hb4 hg4 hat4; obtain ⟨A4, c4, e4⟩ := Kd.R_slice ho4; rw [List.length_append, List.length_singleton] at e4; subst e4; clear hg4 hat4; replace ho4 := Aside0.mk ho4; replace hb4 := Aside0.mk hb4)
            go_roundg k1
            case measure => omega
            case rel => exact ⟨i + 1, by first | rw [ws.out] | rfl, ⟨by have := HK.out; omega⟩, by rw [hs2.out]; exact ho4.out, hb4⟩
          | false =>
            have hs2 := hs.out
            rw [if_neg (by decide), List.append_nil] at hs2
            replace hs2 := Aside0.mk hs2
            go_wp2
            go_roundg k1
            case measure => omega
            case rel => exact ⟨i + 1, by first | rw [ws.out] | rfl, ⟨by have := HK.out; omega⟩, by rw [hs2.out]; exact HR.out, HB⟩
        | succ k3 =>
          have hk : k2 < l.length := by have := HK2.out; omega
          have d5 : decide ((k2 : Int) < ((l.length : Nat) : Int)) = true := decide_eq_true (by omega)
          have d6 : decide (0 ≤ (k2 : Int)) = true := decide_eq_true (by omega)
          have HC2 := Kd.C_below hC.out HB.out
          obtain ⟨ad, eA, c0, c1, _⟩ := at_N7 HC2 k2 hk
          have hn := any_snoc l (i : Int) k2 hk
          generalize (l.take k2).any (fun y => y.frame == (i : Int)) = b at hn ⊢
          generalize l[k2] = y at c0 c1 hn
          subst eA
          replace hn := Aside0.mk hn
          replace hk := Aside0.mk hk
          replace HC2 := Aside0.mk HC2
          have ws2 := Aside0.mk (w64s k2 (by have := hl.out; have := HK2.out; omega))
          cases b with
          | true =>
            go_wp2
            go_roundg k3
            case measure => omega
            case rel => exact ⟨k2 + 1, by rw [hn.out]; rfl, by rw [ws2.out], ⟨by have := HK2.out; omega⟩, rfl⟩
          | false =>
            by_cases ey : y.frame = (i : Int)
            · have b1 : (y.frame == (i : Int)) = true := beq_iff_eq.mpr ey
              have hn2 := hn.out
              rw [b1] at hn2
              replace hn2 := Aside0.mk hn2
              clear ey
              go_wp2
              go_roundg k3
              case measure => omega
              case rel => exact ⟨k2 + 1, by rw [hn2.out]; first | rfl | simp [b1], by rw [ws2.out], ⟨by have := HK2.out; omega⟩, rfl⟩
            · have b1 : (y.frame == (i : Int)) = false := beq_eq_false_iff_ne.mpr ey
              have hn2 := hn.out
              rw [b1] at hn2
              replace hn2 := Aside0.mk hn2
              clear ey
              go_wp2
              go_roundg k3
              case measure => omega
              case rel => exact ⟨k2 + 1, by rw [hn2.out]; first | rfl | simp [b1], by rw [ws2.out], ⟨by have := HK2.out; omega⟩, rfl⟩
end Go.Proofs.Ytfmkjdbhijeejaa.Hand
