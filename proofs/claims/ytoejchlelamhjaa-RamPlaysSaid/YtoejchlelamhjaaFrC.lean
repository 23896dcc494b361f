/- frames.Count, walked by hand. -/
import Derived.Test.YtoejchlelamhjaaFrB
namespace Go.Proofs.Ytoejchlelamhjaa.Hand
set_option linter.unusedVariables false
set_option linter.unusedSimpArgs false
open Go.RowKit Go.Proofs.Ytoejchlelamhjaa.R Go.Proofs.YtoejchlelamhjaaW.PrintWords Go.Proofs.YtoejchlelamhjaaW.PrintLast Go.Proofs.YtoejchlelamhjaaW.PrintMore

theorem rd_at (l : List Int) (i : Nat) (h : i < l.length) : rd l (i : Int) = l[i] := by
  unfold rd
  simp [h]
theorem w64s (x : Nat) (h : x < 9223372036854775807) : wrap64 ((x : Int) + 1) = ((x + 1 : Nat) : Int) := by unfold wrap64; omega
theorem index_l0 (l : List Int) (hl : l.length < 9223372036854775807) (x : Int) (d : Nat) : ∀ (k i : Nat), i + d = l.length → d < k →
    ∃ r, slices_Index_int_int.l0 k l x (l.length : Int) (i : Int) = some r ∧ (decide (r ≥ 0) = (l.drop i).contains x) := by
  induction d with
  | zero =>
    intro k i hi hk
    obtain ⟨k, rfl⟩ : ∃ m, k = m + 1 := ⟨k - 1, by omega⟩
    simp only [slices_Index_int_int.l0]
    rw [if_neg (by omega), List.drop_eq_nil_of_le (by omega)]
    exact ⟨-1, rfl, rfl⟩
  | succ d ih =>
    intro k i hi hk
    obtain ⟨k, rfl⟩ : ∃ m, k = m + 1 := ⟨k - 1, by omega⟩
    have hil : i < l.length := by omega
    simp only [slices_Index_int_int.l0]
    rw [if_pos (by omega), if_pos (by omega), if_pos (by omega), rd_at l i hil, w64s i (by omega), List.drop_eq_getElem_cons hil]
    by_cases hx : x = l[i]
    · rw [if_pos hx]
      refine ⟨_, rfl, ?_⟩
      rw [decide_eq_true (by omega), List.contains_cons, hx]
      simp
    · rw [if_neg hx]
      obtain ⟨r, h1, h2⟩ := ih k (i + 1) (by omega) (by omega)
      refine ⟨r, h1, ?_⟩
      rw [h2, List.contains_cons, beq_eq_false_iff_ne.mpr hx, Bool.false_or]
theorem contains_some (k : Nat) (l : List Int) (hl : l.length < 9223372036854775807) (x : Int) (hk : l.length < k) : slices_Contains_int_int.f k l x = some (l.contains x) := by
  obtain ⟨r, h1, h2⟩ := index_l0 l hl x l.length k 0 (by omega) hk
  unfold slices_Contains_int_int.f slices_Index_int_int.f
  rw [show ((0 : Nat) : Int) = 0 from rfl] at h1
  rw [h1, Option.bind_some, h2, List.drop_zero]
/-- How many of the first are of owners. -/
def cnt (own ow : List Int) (i : Nat) : Nat := ((own.take i).filter (fun x => ow.contains x)).length
theorem cnt_succ (own ow : List Int) (i : Nat) (h : i < own.length) : cnt own ow (i + 1) = cnt own ow i + (if ow.contains own[i] then 1 else 0) := by
  unfold cnt
  rw [List.take_succ_eq_append_getElem h, List.filter_append, List.length_append, List.filter_cons]
  split <;> simp
theorem cnt_le (own ow : List Int) (i : Nat) : cnt own ow i ≤ i := Nat.le_trans (List.length_filter_le _ _) (by rw [List.length_take]; omega)


set_option maxHeartbeats 8000000 in
set_option maxRecDepth 100000 in
theorem count_calls (base g : Nat) (own F : List Int) (t : Int) (o c0 : Nat) (A1 : Option Addr) (c1 : Nat) (A : Option Addr) (c : Nat) (ow : List Int) (w : World) (h : FS w base g own F t o c0 A1 c1) (hO : own.length < 1000000) (hC : Kd.C (Kd.int .i64) w A ow.length ow) (hc : ow.length ≤ c) (hl : ow.length < 1000000) :
    Calls Try.prog 17 #[.pointer (some ⟨g, 0, none⟩), .slice A ow.length c] w fun e w' => e = .returned (.int .i64 ((cnt own ow own.length : Nat) : Int)) ∧ Below w.heap.size w w' := by
  have hM := Aside0.mk (many_q base g own F t o c0 A1 c1 w h)
  replace h := Aside0.mk h
  replace hO := Aside0.mk hO
  replace hC := Aside0.mk hC
  replace hc := Aside0.mk hc
  replace hl := Aside0.mk hl
  go_enter Try.func17, Try.ntmps17
  go_wp2_with (go_at_call 16; refine hM.out.mono ?_; rintro e w2 ⟨rfl, rfl⟩)
  go_loopg [5, 9] own.length (fun kq v5 v9 w' => ∃ (i : Nat), v5 = .int .i64 ((cnt own ow i : Nat) : Int) ∧ v9 = .int .i64 (i : Int) ∧ Aside0 (i + kq = own.length) ∧ Aside0 (Below w2.heap.size w2 w'))
  case atStart => exact ⟨0, rfl, rfl, ⟨by omega⟩, ⟨Below.refl _ _⟩⟩
  case round =>
    obtain ⟨i, rfl, rfl, HK, HB⟩ := hrel
    cases gk with
    | zero =>
      obtain rfl : i = own.length := by have := HK.out; omega
      have e1 : decide ((own.length : Int) < (own.length : Int)) = false := decide_eq_false (by omega)
      go_wp2
      go_returns
      exact ⟨rfl, HB.out⟩
    | succ k =>
      have hi : i < own.length := by have := HK.out; omega
      have e1 : decide ((i : Int) < (own.length : Int)) = true := decide_eq_true (by omega)
      have e2 : decide (i < own.length) = true := decide_eq_true hi
      have H := h.out.below HB.out
      have k0 : wr.cell? ⟨g, 0, none⟩ = some (.slice (some ⟨o, 0, none⟩) own.length c0) := (blk_cell H.blk 0).trans rfl
      obtain ⟨ko, _⟩ := Kd.R_celln (0 : Int) H.r0 (i : Int) (by omega) (by omega)
      have eo : rdOf (0 : Int) own (i : Int) = own[i] := by unfold rdOf; simp [hi]
      rw [eo, Int.toNat_natCast] at ko
      obtain ⟨x, hx⟩ : ∃ x, x = own[i] := ⟨_, rfl⟩
      have hs := cnt_succ own ow i hi
      rw [← hx] at ko hs
      have hcn := cnt_le own ow i
      have hO' := hO.out
      have ws := Aside0.mk (w64s i (by omega))
      have wc := Aside0.mk (w64s (cnt own ow i) (by omega))
      have hCC := Aside0.mk (slices_Contains_int_int.calls (ow.length + 1) A c ow x _ wr (Kd.C_below hC.out HB.out) hc.out (contains_some (ow.length + 1) ow (by have := hl.out; omega) x (by omega)))
      replace hs := Aside0.mk hs
      clear H eo hx hcn hO'
      cases hm : ow.contains x with
      | true =>
        rw [hm] at hCC hs
        go_wp2_with (go_at_call 31; refine hCC.out.mono ?_; rintro e w3 ⟨rfl, ⟨nd, rfl⟩⟩)
        go_roundg k
        case measure => omega
        case rel => exact ⟨i + 1, by rw [hs.out, wc.out]; rfl, by rw [ws.out], ⟨by have := HK.out; omega⟩, ⟨pw_below_drewN HB.out _⟩⟩
      | false =>
        rw [hm] at hCC hs
        go_wp2_with (go_at_call 31; refine hCC.out.mono ?_; rintro e w3 ⟨rfl, ⟨nd, rfl⟩⟩)
        go_roundg k
        case measure => omega
        case rel => exact ⟨i + 1, by rw [hs.out]; rfl, by rw [ws.out], ⟨by have := HK.out; omega⟩, ⟨pw_below_drewN HB.out _⟩⟩

end Go.Proofs.Ytoejchlelamhjaa.Hand
