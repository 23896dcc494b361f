/- clock's round, walked by hand. -/
import Derived.Test.YtmmnkanijdbgpaaC1
namespace Go.Proofs.Ytmmnkanijdbgpaa.Hand
set_option linter.unusedVariables false
set_option linter.unusedSimpArgs false
open Go.RowKit Go.Proofs.Ytmmnkanijdbgpaa.R Go.Proofs.YtmmnkanijdbgpaaW.PrintWords Go.Proofs.YtmmnkanijdbgpaaW.PrintLast Go.Proofs.YtmmnkanijdbgpaaW.PrintMore

abbrev RI (w : World) (base : Nat) (ok : Nat → Prop) (v : Value) (xs : List Int) : Prop := Kd.R (Kd.int .i64) 3 w base ok v xs
theorem bs {α β : Type} {x : Option α} {f : α → Option β} {a : α} (h : x = some a) : x.bind f = f a := by rw [h]; rfl
theorem rd_at (l : List Int) (i : Nat) (h : i < l.length) : rd l (i : Int) = l[i] := by
  unfold rd
  simp [h]
theorem w64s (x : Nat) (h : x < 9223372036854775807) : wrap64 ((x : Int) + 1) = ((x + 1 : Nat) : Int) := by unfold wrap64; omega
theorem index_l0 (l : List Int) (hl : l.length < 9223372036854775807) (x : Int) (d : Nat) : ∀ (k i : Nat), i + d = l.length → d < k →
    ∃ r, slices_Index_int_int.l0 k l x (l.length : Int) (i : Int) = some r ∧ (decide (r ≥ 0) = (l.drop i).contains x) := by
  induction d with
  | zero =>
    intro k i hi hk
    obtain ⟨k, rfl⟩ : ∃ m, k = m + 1 := ⟨k - 1, by omega⟩
    simp only [slices_Index_int_int.l0]
    rw [if_neg (by omega), List.drop_eq_nil_of_le (by omega)]
    exact ⟨-1, rfl, rfl⟩
  | succ d ih =>
    intro k i hi hk
    obtain ⟨k, rfl⟩ : ∃ m, k = m + 1 := ⟨k - 1, by omega⟩
    have hil : i < l.length := by omega
    simp only [slices_Index_int_int.l0]
    rw [if_pos (by omega), if_pos (by omega), if_pos (by omega), rd_at l i hil, w64s i (by omega), List.drop_eq_getElem_cons hil]
    by_cases hx : x = l[i]
    · rw [if_pos hx]
      refine ⟨_, rfl, ?_⟩
      rw [decide_eq_true (by omega), List.contains_cons, hx]
      simp
    · rw [if_neg hx]
      obtain ⟨r, h1, h2⟩ := ih k (i + 1) (by omega) (by omega)
      refine ⟨r, h1, ?_⟩
      rw [h2, List.contains_cons, beq_eq_false_iff_ne.mpr hx, Bool.false_or]
theorem contains_some (l : List Int) (hl : l.length < 9223372036854775807) (x : Int) : slices_Contains_int_int.f (l.length + 1) l x = some (l.contains x) := by
  obtain ⟨r, h1, h2⟩ := index_l0 l hl x l.length (l.length + 1) 0 (by omega) (by omega)
  unfold slices_Contains_int_int.f slices_Index_int_int.f
  rw [show ((0 : Nat) : Int) = 0 from rfl] at h1
  rw [h1, Option.bind_some, h2, List.drop_zero]

/-- The frames that are asked, of the first k from the hand on. -/
def rnd (L but : List Int) (h : Nat) : Nat → List Int
  | 0 => []
  | k + 1 => if inC L (((h + k) % 96 : Nat) : Int) && !(but.contains (((h + k) % 96 : Nat) : Int)) then rnd L but h k ++ [(((h + k) % 96 : Nat) : Int)] else rnd L but h k
theorem rnd_succ (L but : List Int) (h k : Nat) : rnd L but h (k + 1) = if inC L (((h + k) % 96 : Nat) : Int) && !(but.contains (((h + k) % 96 : Nat) : Int)) then rnd L but h k ++ [(((h + k) % 96 : Nat) : Int)] else rnd L but h k := rfl
theorem rnd_length (L but : List Int) (h k : Nat) : (rnd L but h k).length ≤ k := by
  induction k with
  | zero => exact Nat.le_refl _
  | succ k ih =>
    rw [rnd_succ]
    split
    · rw [List.length_append]; simp only [List.length_cons, List.length_nil]; omega
    · omega

set_option maxHeartbeats 8000000 in
set_option maxRecDepth 100000 in
theorem round_calls (g : Nat) (L : List Int) (hL : L.length = 98) (h : Nat) (hh : L.getD 96 0 = (h : Int)) (h96 : h < 96) (A : Option Addr) (c : Nat) (but : List Int) (w : World) (hb : CS w g L) (hC : Kd.C (Kd.int .i64) w A but.length but) (hc : but.length ≤ c) (hbl : but.length < 9223372036854775807) :
    Calls Try.prog 24 #[.pointer (some ⟨g, 0, none⟩), .slice A but.length c] w fun e w' => ∃ v, e = .returned v ∧ RI w' w.heap.size (fun _ => True) v (rnd L but h 96) ∧ Below w.heap.size w w' := by
  replace hb := Aside0.mk hb
  replace hC := Aside0.mk hC
  replace hc := Aside0.mk hc
  replace hbl := Aside0.mk hbl
  replace hL := Aside0.mk hL
  replace hh := Aside0.mk hh
  go_enter Try.func24, Try.ntmps24
  go_wp2
  go_loopg [5, 8] 96 (fun kq v5 v8 w' => ∃ (k : Nat) (A1 : Option Addr) (c1 : Nat) (F : List Int), v5 = .slice A1 F.length c1 ∧ v8 = .int .i64 (k : Int) ∧ Aside0 (k + kq = 96 ∧ F = rnd L but h k) ∧ Aside0 (RI w' w.heap.size (fun _ => True) (.slice A1 F.length c1) F) ∧ Aside0 (Below w.heap.size w w'))
  case atStart => exact ⟨0, none, 0, [], rfl, rfl, ⟨rfl, rfl⟩, ⟨Kd.R_nil _ _ _ _ _⟩, ⟨Below.refl _ _⟩⟩
  case round =>
    obtain ⟨k, A1, c1, F, rfl, rfl, HK, HR, HB⟩ := hrel
    cases gk with
    | zero =>
      obtain rfl : k = 96 := by have := HK.out; omega
      have e1 : decide (((96 : Nat) : Int) < 96) = false := by decide
      go_wp2
      go_returns
      exact ⟨_, rfl, by rw [← HK.out.2]; exact HR.out, HB.out⟩
    | succ k2 =>
      have hk : k < 96 := by have := HK.out; omega
      have e1 : decide ((k : Int) < 96) = true := decide_eq_true (by omega)
      have e2 : decide (k < 96) = true := decide_eq_true hk
      obtain ⟨f, hf⟩ : ∃ f, f = (h + k) % 96 := ⟨_, rfl⟩
      have hf96 : f < 96 := by omega
      have hm : Int.tmod ((h : Int) + (k : Int)) 96 = (f : Int) := by rw [Int.tmod_eq_emod_of_nonneg (by omega)]; omega
      have hcs := Aside0.mk (blk_below hb.out HB.out)
      have hH := Aside0.mk (hand_calls g L hL.out wr hcs.out)
      rw [hh.out] at hH
      have hI := Aside0.mk (in_calls g L hL.out (f : Int) wr hcs.out)
      have hCw := Aside0.mk (Kd.C_below hC.out HB.out)
      have hCo := Aside0.mk (slices_Contains_int_int.calls (but.length + 1) A c but (f : Int) _ wr hCw.out hc.out (contains_some but hbl.out (f : Int)))
      have rs := rnd_succ L but h k
      rw [← hf] at rs
      have ws := Aside0.mk (w64s k (by omega))
      have hal : (F.length + 1) * 8 ≤ 140737488355328 := by have := rnd_length L but h k; rw [← HK.out.2] at this; omega
      replace hal := Aside0.mk hal
      replace rs := Aside0.mk rs
      replace hf := Aside0.mk hf
      cases hI1 : inC L (f : Int) with
      | false =>
        rw [hI1] at hI rs
        go_wp2_with (first | (go_at_call 9; refine hH.out.mono ?_; rintro e w2 ⟨rfl, rfl⟩) | (go_at_call 23; refine hI.out.mono ?_; rintro e w2 ⟨rfl, rfl⟩))
        go_roundg k2
        case measure => omega
        case rel => exact ⟨k + 1, A1, c1, F, rfl, by first | rw [ws.out] | rfl, ⟨by have := HK.out; omega, by rw [rs.out, HK.out.2]; rfl⟩, HR, HB⟩
      | true =>
        rw [hI1] at hI rs
        cases hct : but.contains (f : Int) with
        | true =>
          rw [hct] at hCo rs
          go_wp2_with (first | (go_at_call 9; refine hH.out.mono ?_; rintro e w2 ⟨rfl, rfl⟩) | (go_at_call 23; refine hI.out.mono ?_; rintro e w2 ⟨rfl, rfl⟩) | (go_at_call 29; refine hCo.out.mono ?_; rintro e w3 ⟨rfl, ⟨nd, rfl⟩⟩))
          go_roundg k2
          case measure => omega
          case rel => exact ⟨k + 1, A1, c1, F, rfl, by first | rw [ws.out] | rfl, ⟨by have := HK.out; omega, by rw [rs.out, HK.out.2]; rfl⟩, ⟨Kd.R_drewN HR.out _⟩, ⟨pw_below_drewN HB.out _⟩⟩
        | false =>
          rw [hct] at hCo rs
          go_wp2_with (first | (go_at_call 9; refine hH.out.mono ?_; rintro e w2 ⟨rfl, rfl⟩) | (go_at_call 23; refine hI.out.mono ?_; rintro e w2 ⟨rfl, rfl⟩) | (go_at_call 29; refine hCo.out.mono ?_; rintro e w3 ⟨rfl, ⟨nd, rfl⟩⟩; have HR2 := Aside0.mk (Kd.R_drewN HR.out nd); have HB2 := Aside0.mk (pw_below_drewN HB.out nd)) | ((with_reducible refine gate_builtin (b := .append) (xs := #[.tmp 25, .tmp 27]) rfl ?_); at_builtin; refine Kd.R_append (Kd.int .i64) (w0 := w) w.heap.size rfl (.tmp 25) (.tmp 27) 26 3 (.int .i64 0) 8 rfl Try.underlying26 info3 rfl (by decide) (by omega) (.slice A1 F.length c1) F (f : Int) [.int .i64 (f : Int)] (fun _ => True) (fun _ => False) rfl rfl ?aP (fun _ hk => hk.elim) ?aF ?aO ?aB ?aS ?aL ?_; (case aP => exact rfl); (case aB => exact HB2.out); (case aF => exact (fun _ _ => trivial)); (case aO => exact HR2.out); (case aS => exact HB2.out.size); (case aL => exact hal.out); intro v4 w4 ho hb4 hg hat; obtain ⟨A4, c4, e4⟩ := Kd.R_slice ho; subst e4; have HR4 := Aside0.mk ho; have HB4 := Aside0.mk hb4; clear ho hb4 hg hat))
          go_roundg k2
          case measure => omega
          case rel => exact ⟨k + 1, A4, c4, F ++ [(f : Int)], by first | rfl | simp, by first | rw [ws.out] | rfl, ⟨by have := HK.out; omega, by rw [rs.out, HK.out.2]; rfl⟩, HR4, HB4⟩

end Go.Proofs.Ytmmnkanijdbgpaa.Hand
