/- Unmap, Protect: walked. -/
import Derived.Test.YtgcgnpinhlmmjaaA4
namespace Go.Proofs.Ytgcgnpinhlmmjaa.Hand
set_option linter.unusedVariables false
set_option linter.unusedSimpArgs false
open Go.RowKit Go.Maps Go.Proofs.Ytgcgnpinhlmmjaa.R Go.Proofs.Ytgcgnpinhlmmjaa.Va Go.Proofs.YtgcgnpinhlmmjaaW.PrintWords Go.Proofs.YtgcgnpinhlmmjaaW.PrintLast Go.Proofs.YtgcgnpinhlmmjaaW.PrintMore

theorem far_grown {w w' : World} {b : Nat} (h : w.grownBy w' (some b)) : Far (fun x => x = b) w w' :=
  ⟨h.os, h.tape, h.output, h.size, fun k hk hn => h.block k hk (fun e => hn (Option.some.inj e))⟩
theorem lit_ne {a b : Int} (h : a ≠ b) : (Lit.int .i64 a) ≠ (Lit.int .i64 b) := fun e => h (by injection e)
theorem isKeyI (n : Int) : WideAt.IsKeyLit (.int .i64 n) := by simp [WideAt.IsKeyLit]
theorem pbOf_has (L : List Pg) (B : Int → Nat × Nat) (n : Int) : pbOf L B n = if hasP L n then some (B n).1 else none := by
  unfold pbOf
  rw [hasP_get]
  cases h : getP L n with
  | none => rfl
  | some p => rw [← (getP_mem h).2]; rfl
/-- A model in memory, whatever its map's datum. -/
def ME (w : World) (base bb mb cnt : Nat) (L : List Pg) (B : Int → Nat × Nat) : Prop := ∃ D, MD w base bb mb cnt D L B
theorem MD.e {w : World} {base bb mb cnt : Nat} {D : DataW Unit} {L : List Pg} {B : Int → Nat × Nat} (h : MD w base bb mb cnt D L B) : ME w base bb mb cnt L B := ⟨D, h⟩
/-- A page taken out. -/
theorem MD.del {w w' : World} {base bb mb cnt : Nat} {D : DataW Unit} {L : List Pg} {B : Int → Nat × Nat} (h : MD w base bb mb cnt D L B) (n : Int) (f : Far (fun k => k = mb) w w') (ho : w'.ownsMap Try.prog 3 ptrR mb cnt (D.del (.int .i64 n))) :
    MD w' base bb mb cnt (D.del (.int .i64 n)) (delP L n) B := by
  obtain ⟨es, clock, hm, _⟩ := h.own
  have n1 : bb ≠ mb := fun e => by have := h.blk; rw [e, hm] at this; cases this
  refine ⟨f.blk h.blk n1, ho, h.srt.del n, h.okp.del n, fun k => ?_, fun p hp z => ?_, fun p hp => ?_, fun p hp => ?_, fun p hp q hq => h.ap p (mem_delP.1 hp).1 q (mem_delP.1 hq).1, h.lo.1, h.lo.2.1, fun p hp => h.lo.2.2 p (mem_delP.1 hp).1⟩
  · by_cases e : k = n
    · subst e
      rw [has_del_same]
      cases hc : hasP (delP L k) k with
      | false => rfl
      | true =>
        obtain ⟨p, hp, e⟩ := hasP_iff.1 hc
        exact absurd e (mem_delP.1 hp).2
    · rw [has_del_other (lit_ne e), h.has k]
      rw [Bool.eq_iff_iff, hasP_iff, hasP_iff]
      constructor
      · rintro ⟨p, hp, e2⟩
        exact ⟨p, mem_delP.2 ⟨hp, by rw [e2]; exact e⟩, e2⟩
      · rintro ⟨p, hp, e2⟩
        exact ⟨p, (mem_delP.1 hp).1, e2⟩
  · obtain ⟨h1, h2⟩ := mem_delP.1 hp
    rw [atKey_del_other (lit_ne h2)]
    exact h.at_ p h1 z
  · have h1 := (mem_delP.1 hp).1
    exact f.blk (h.pg p h1) (fun e => by have := h.pg p h1; rw [e, hm] at this; cases this)
  · have h1 := (mem_delP.1 hp).1
    exact f.blk (h.dt p h1) (fun e => by have := h.dt p h1; rw [e, hm] at this; cases this)

/-! first -/
theorem i64row {w : World} {g : Nat} {xs : List Int} {t : Nat} (h : w.heap[g]? = some (.cells (xs.map (Value.int .i64)).toArray t (0, 0))) (hl : xs.length ≤ 1000) : Kd.C (Kd.int .i64) w (some ⟨g, 0, none⟩) xs.length xs := by
  refine ⟨rfl, by omega, fun _ => ⟨_, rfl, fun j p hj => ⟨[.int .i64 p], rfl, rfl, fun i u hi => ?_⟩⟩⟩
  cases i with
  | succ i => cases hi
  | zero =>
    obtain rfl : Value.int .i64 p = u := Option.some.inj hi
    have := blk_cell h j
    have e : (⟨g, 0, none⟩ : Addr).add (j * (Kd.int .i64).sz + 0) = ⟨g, j, none⟩ := by
      rw [show j * (Kd.int .i64).sz + 0 = j from by show j * 1 + 0 = j; omega]
      simp [Addr.add]
      exact fun h => h.symm
    rw [e, this, List.getElem?_toArray, List.getElem?_map, hj]
    rfl
def firstE : List Int → Int
  | [] => 0
  | e :: l => if e = 0 then firstE l else e
theorem first_l0 (xs : List Int) (hl : xs.length ≤ 1000) (d : Nat) : ∀ (k i : Nat), i + d = xs.length → d < k → model_first.l0 k xs (xs.length : Int) (i : Int) = some (firstE (xs.drop i)) := by
  induction d with
  | zero =>
    intro k i hi hk
    obtain ⟨k, rfl⟩ : ∃ m, k = m + 1 := ⟨k - 1, by omega⟩
    simp only [model_first.l0]
    rw [if_neg (by omega), List.drop_eq_nil_of_le (by omega)]
    rfl
  | succ d ih =>
    intro k i hi hk
    obtain ⟨k, rfl⟩ : ∃ m, k = m + 1 := ⟨k - 1, by omega⟩
    simp only [model_first.l0]
    have hlt : i < xs.length := by omega
    have e1 : wrap64 ((i : Int) + 1) = ((i + 1 : Nat) : Int) := w64s i (by omega)
    have e2 : rd xs (i : Int) = xs[i] := by
      unfold rd
      rw [Int.toNat_natCast, List.getD_eq_getElem?_getD, List.getElem?_eq_getElem hlt]
      rfl
    rw [if_pos (by omega), if_pos (by omega), if_pos (by omega), e1, ih k (i + 1) (by omega) (by omega), e2, List.drop_eq_getElem_cons hlt]
    show _ = some (if xs[i] = 0 then _ else _)
    split <;> rfl
theorem first_calls (g : Nat) (xs : List Int) (w : World) (h : w.heap[g]? = some (.cells (xs.map (Value.int .i64)).toArray 26 (0, 0))) (hl : xs.length ≤ 1000) :
    Calls Try.prog 56 #[.slice (some ⟨g, 0, none⟩) xs.length xs.length] w fun e w' => e = .returned (.int .i64 (firstE xs)) ∧ w' = w :=
  model_first.calls (xs.length + 1) _ _ xs _ w (i64row h hl) (Nat.le_refl _) (first_l0 xs hl xs.length _ 0 (by omega) (by omega))

set_option maxHeartbeats 8000000 in
set_option maxRecDepth 100000 in
theorem unmapped_calls (base bb mb cnt : Nat) (D : DataW Unit) (L : List Pg) (B : Int → Nat × Nat) (k0 k1 n : Int) (a : Nat) (ha : a < 18446744073709551616) (v4 : Value) (w : World) (h : MD w base bb mb cnt D L B) :
    Calls Try.prog 44 #[.pointer (some ⟨bb, 0, none⟩), .agg #[.int .i64 k0, .int .i64 k1, .int .i64 n, .int .u64 (a : Int), v4]] w fun e w' => e = .returned (.int .i64 (unmapE L a)) ∧ ME w' base bb mb cnt (unmapL L a) B ∧ Far (Mown mb L B) w w' := by
  have hb1 := below_alloc (Below.refl _ w) (.cells #[.int .i64 k0, .int .i64 k1, .int .i64 n, .int .u64 (a : Int), v4] 25 (0, 0))
  have q0 := blk_new w (.cells #[.int .i64 k0, .int .i64 k1, .int .i64 n, .int .u64 (a : Int), v4] 25 (0, 0))
  have h1 := h.below hb1
  have hF := Far.of_below (S := Mown mb L B) hb1
  have hP := Aside0.mk (page_calls a ha)
  have hA := Aside0.mk (at_calls a ha)
  have hE : unmapE L a = firstE [atE a, if hasP L (pnum a) = true then 0 else 9] := by
    unfold unmapE firstE firstE firstE
    by_cases e : atE a = 0
    · rw [if_neg (by omega), if_pos e]
      split <;> rfl
    · rw [if_pos e, if_neg e]
  replace hb1 := Aside0.mk hb1
  have hlk : ∀ W, Below w.heap.size w W → _ := fun W hW => h.look_ok (pnum a) (pnum_lt a) W hW
  rw [pbOf_has] at hlk
  have hkey : keyOf Try.prog 3 (.int .i64 (pnum a)) = some (.int .i64 (pnum a)) := keyOf_int_mk Try.underlying3 (WalkArith.wf_i64 (by have := pnum_lt a; omega))
  replace hkey := Aside0.mk hkey
  obtain ⟨E, hEE⟩ : ∃ E, E = unmapE L a := ⟨_, rfl⟩
  rw [← hEE] at hE ⊢
  replace hEE := Aside0.mk hEE
  obtain ⟨L2, hL2⟩ : ∃ l, l = unmapL L a := ⟨_, rfl⟩
  rw [← hL2]
  replace hL2 := Aside0.mk hL2
  clear h ha
  go_enter Try.func44, Try.ntmps44
  go_upto_region 1 with fail
  have hlk2 := fun N => hlk (((w.alloc (.cells #[.int .i64 k0, .int .i64 k1, .int .i64 n, .int .u64 (a : Int), v4] 25 (0, 0)))).drewN N) (pw_below_drewN hb1.out N)
  clear hlk
  generalize w.alloc (.cells #[.int .i64 k0, .int .i64 k1, .int .i64 n, .int .u64 (a : Int), v4] 25 (0, 0)) = w1 at *
  have kb : w1.cell? ⟨bb, 0, none⟩ = some (.map (some mb)) := (blk_cell h1.blk 0).trans rfl
  have k3 : w1.cell? ⟨w.heap.size, 3, none⟩ = some (.int .u64 (a : Int)) := (blk_cell q0 3).trans rfl
  replace h1 := Aside0.mk h1
  replace hF := Aside0.mk hF
  replace q0 := Aside0.mk q0
  obtain ⟨hv, hh⟩ : ∃ b, b = hasP L (pnum a) := ⟨_, rfl⟩
  obtain ⟨e1, he1⟩ : ∃ e, e = atE a := ⟨_, rfl⟩
  rw [← hh] at hE hlk2
  rw [← he1] at hE hA
  obtain ⟨pv, hpv⟩ : ∃ p, p = ptrV (if hv = true then some (B (pnum a)).1 else none) := ⟨_, rfl⟩
  rw [← hpv] at hlk2
  replace hpv := Aside0.mk hpv
  replace hh := Aside0.mk hh
  replace he1 := Aside0.mk he1
  have hW2 := Aside0.mk (wants_calls hv 9)
  generalize (if hv = true then (0 : Int) else 9) = e2 at hE hW2
  have hFi := Aside0.mk (fun W : World => first_calls W.heap.size [e1, e2] (W.alloc (.cells #[.int .i64 e1, .int .i64 e2] 26 (0, 0))) (blk_new W _) (by simp))
  rw [← hE] at hFi
  replace hE := Aside0.mk hE
  generalize hq : pnum a = q at *
  replace hq := Aside0.mk hq
  go_quiet (first | (go_at_call 35; (with_reducible refine (hP.out _).mono ?_); rintro e w' ⟨rfl, rfl⟩; exact ⟨rfl, _, rfl⟩))
  clear hlk2
  go_upto_region 3 with (first
    | (go_at_call 57; refine (hA.out _).mono ?_; rintro e w9 ⟨rfl, rfl⟩)
    | (go_at_call 48; refine (hW2.out _).mono ?_; rintro e w9 ⟨rfl, rfl⟩)
    | (go_at_call 56; refine (hFi.out (w1.drewN nq)).mono ?_; rintro e w9 ⟨rfl, rfl⟩))
  clear hFi hW2 hA
  have hb2 : Below w1.heap.size w1 ((w1.drewN nq).alloc (.cells #[.int .i64 e1, .int .i64 e2] 26 (0, 0))) := below_alloc (pw_below_drewN (Below.refl _ _) nq) _
  have hM3 := h1.out.below hb2
  have hF3 : Far (Mown mb L B) w ((w1.drewN nq).alloc (.cells #[.int .i64 e1, .int .i64 e2] 26 (0, 0))) := hF.out.then_ (Far.of_below hb2)
  have q3 := blk_below q0.out hb2
  generalize (w1.drewN nq).alloc (.cells #[.int .i64 e1, .int .i64 e2] 26 (0, 0)) = w3 at *
  clear kb k3
  have kb : w3.cell? ⟨bb, 0, none⟩ = some (.map (some mb)) := (blk_cell hM3.blk 0).trans rfl
  have k3 : w3.cell? ⟨w.heap.size, 3, none⟩ = some (.int .u64 (a : Int)) := (blk_cell q3 3).trans rfl
  replace hM3 := Aside0.mk hM3
  replace hF3 := Aside0.mk hF3
  clear hb2 q3 h1 hF q0 hb1 hE he1 hh hpv
  by_cases c0 : E = 0
  · have b0 : (E == 0) = true := beq_iff_eq.mpr c0
    have hL : L2 = delP L q := by
      rw [hL2.out]
      unfold unmapL
      rw [← hEE.out, if_pos c0, hq.out]
    replace hL := Aside0.mk hL
    clear c0
    go_upto_region 4 with fail
    refine wp_region_still_tail 7 (by kernel_rfl) (by kernel_rfl) ?_
    simp only [List.take_succ_cons, List.take_zero, List.drop_succ_cons, List.drop_zero]
    repeat still_step
    still_call (hP.out _)
    repeat still_step
    refine wpStill_nil ?_
    change wpList _ _ _ _ _ w3.drew
    have hM4 := hM3.out.drew
    have hF4 := hF3.out.drew
    generalize w3.drew = w4 at *
    replace hM4 := Aside0.mk hM4
    replace hF4 := Aside0.mk hF4
    go_wp2_with (at_delete; refine wpList_delete_own _ rfl _ _ 66 3 rfl 72 law3 Try.underlying66 ptrR mb cnt D rfl hM4.out.own _ _ rfl hkey.out ?_; intro w5 hown2 hturn2; have hF5 := Aside0.mk (far_grown hturn2.grown); replace hown2 := Aside0.mk hown2; clear hturn2)
    go_returns
    rw [hL.out]
    exact ⟨rfl, (hM4.out.del q hF5.out hown2.out).e, hF4.out.then_ (hF5.out.mono (fun k hk => .inl hk))⟩
  · have b0 : (E == 0) = false := beq_eq_false_iff_ne.mpr c0
    have hL : L2 = L := by
      rw [hL2.out]
      unfold unmapL
      rw [← hEE.out, if_neg c0]
    replace hL := Aside0.mk hL
    clear c0
    go_wp2
    go_returns
    rw [hL.out]
    exact ⟨rfl, hM3.out.e, hF3.out⟩
set_option maxHeartbeats 8000000 in
set_option maxRecDepth 100000 in
theorem protected_calls (base bb mb cnt : Nat) (D : DataW Unit) (L : List Pg) (B : Int → Nat × Nat) (k0 k1 n : Int) (a : Nat) (ha : a < 18446744073709551616) (v4 : Value) (w : World) (h : MD w base bb mb cnt D L B) :
    Calls Try.prog 45 #[.pointer (some ⟨bb, 0, none⟩), .agg #[.int .i64 k0, .int .i64 k1, .int .i64 n, .int .u64 (a : Int), v4]] w fun e w' => e = .returned (.int .i64 (protE L a k1)) ∧ ME w' base bb mb cnt (protL L a k1) B ∧ Far (Mown mb L B) w w' := by
  have hb1 := below_alloc (Below.refl _ w) (.cells #[.int .i64 k0, .int .i64 k1, .int .i64 n, .int .u64 (a : Int), v4] 25 (0, 0))
  have q0 := blk_new w (.cells #[.int .i64 k0, .int .i64 k1, .int .i64 n, .int .u64 (a : Int), v4] 25 (0, 0))
  have h1 := h.below hb1
  have hF := Far.of_below (S := Mown mb L B) hb1
  have hP := Aside0.mk (page_calls a ha)
  have hA := Aside0.mk (at_calls a ha)
  have hE : protE L a k1 = firstE [atE a, if permB k1 = true then 0 else 1, if hasP L (pnum a) = true then 0 else 9] := by
    unfold protE firstE firstE firstE firstE
    by_cases e : atE a = 0
    · rw [if_neg (by omega), if_pos e]
      cases permB k1 with
      | false => rfl
      | true => cases hasP L (pnum a) <;> rfl
    · rw [if_pos e, if_neg e]
  replace hb1 := Aside0.mk hb1
  have hlk : ∀ W, Below w.heap.size w W → _ := fun W hW => h.look_ok (pnum a) (pnum_lt a) W hW
  rw [pbOf_has] at hlk
  have hkey : keyOf Try.prog 3 (.int .i64 (pnum a)) = some (.int .i64 (pnum a)) := keyOf_int_mk Try.underlying3 (WalkArith.wf_i64 (by have := pnum_lt a; omega))
  replace hkey := Aside0.mk hkey
  obtain ⟨E, hEE⟩ : ∃ E, E = protE L a k1 := ⟨_, rfl⟩
  rw [← hEE] at hE ⊢
  replace hEE := Aside0.mk hEE
  obtain ⟨L2, hL2⟩ : ∃ l, l = protL L a k1 := ⟨_, rfl⟩
  rw [← hL2]
  replace hL2 := Aside0.mk hL2
  have hPm := Aside0.mk (perm_calls k1)
  obtain ⟨hp, hpe⟩ : ∃ b, b = permB k1 := ⟨_, rfl⟩
  rw [← hpe] at hPm hE
  have hpe2 := Aside0.mk hpe
  clear hpe
  clear h ha
  go_enter Try.func45, Try.ntmps45
  go_upto_region 1 with fail
  have hlk2 := fun N => hlk (((w.alloc (.cells #[.int .i64 k0, .int .i64 k1, .int .i64 n, .int .u64 (a : Int), v4] 25 (0, 0)))).drewN N) (pw_below_drewN hb1.out N)
  clear hlk
  generalize w.alloc (.cells #[.int .i64 k0, .int .i64 k1, .int .i64 n, .int .u64 (a : Int), v4] 25 (0, 0)) = w1 at *
  have kb : w1.cell? ⟨bb, 0, none⟩ = some (.map (some mb)) := (blk_cell h1.blk 0).trans rfl
  have k3 : w1.cell? ⟨w.heap.size, 3, none⟩ = some (.int .u64 (a : Int)) := (blk_cell q0 3).trans rfl
  replace h1 := Aside0.mk h1
  replace hF := Aside0.mk hF
  replace q0 := Aside0.mk q0
  obtain ⟨hv, hh⟩ : ∃ b, b = hasP L (pnum a) := ⟨_, rfl⟩
  obtain ⟨e1, he1⟩ : ∃ e, e = atE a := ⟨_, rfl⟩
  rw [← hh] at hE hlk2
  rw [← he1] at hE hA
  obtain ⟨pv, hpv⟩ : ∃ p, p = ptrV (if hv = true then some (B (pnum a)).1 else none) := ⟨_, rfl⟩
  rw [← hpv] at hlk2
  replace hpv := Aside0.mk hpv
  replace hh := Aside0.mk hh
  replace he1 := Aside0.mk he1
  have hW2 := Aside0.mk (wants_calls hv 9)
  have hW1 := Aside0.mk (wants_calls hp 1)
  generalize (if hv = true then (0 : Int) else 9) = e3 at hE hW2
  generalize (if hp = true then (0 : Int) else 1) = e2 at hE hW1
  have hFi := Aside0.mk (fun W : World => first_calls W.heap.size [e1, e2, e3] (W.alloc (.cells #[.int .i64 e1, .int .i64 e2, .int .i64 e3] 26 (0, 0))) (blk_new W _) (by simp))
  rw [← hE] at hFi
  replace hE := Aside0.mk hE
  generalize hq : pnum a = q at *
  replace hq := Aside0.mk hq
  go_quiet (first | (go_at_call 35; (with_reducible refine (hP.out _).mono ?_); rintro e w' ⟨rfl, rfl⟩; exact ⟨rfl, _, rfl⟩))
  clear hlk2
  have hM1 := h1.out.drewN nq
  have hF1 : Far (Mown mb L B) w (w1.drewN nq) := hF.out.then_ (Far.of_below (pw_below_drewN (Below.refl _ _) nq))
  have q1 := blk_drewN q0.out nq
  clear kb k3 q0 hF h1 hb1
  generalize w1.drewN nq = wx at *
  have k3' : wx.cell? ⟨w.heap.size, 3, none⟩ = some (.int .u64 (a : Int)) := (blk_cell q1 3).trans rfl
  have k1' : wx.cell? ⟨w.heap.size, 1, none⟩ = some (.int .i64 k1) := (blk_cell q1 1).trans rfl
  have hM2 := hM1.drew
  have hF2 := hF1.drew
  have q2 := blk_drew q1
  replace hM2 := Aside0.mk hM2
  replace hF2 := Aside0.mk hF2
  replace q2 := Aside0.mk q2
  clear hM1 hF1 q1
  go_upto_region 2 with fail
  refine wp_region_still_tail 9 (by kernel_rfl) (by kernel_rfl) ?_
  simp only [List.take_succ_cons, List.take_zero, List.drop_succ_cons, List.drop_zero]
  repeat still_step
  still_call (hA.out _)
  repeat still_step
  still_call (hPm.out _)
  repeat still_step
  still_call (hW1.out _)
  repeat still_step
  still_call (hW2.out _)
  repeat still_step
  refine wpStill_nil ?_
  change wpList _ _ _ _ _ wx.drew
  clear k3' k1'
  generalize wx.drew = w2 at *
  go_upto_region 3 with (go_at_call 56; refine (hFi.out w2).mono ?_; rintro e w9 ⟨rfl, rfl⟩)
  clear hFi hW2 hW1 hA hPm
  have hb2 : Below w2.heap.size w2 (w2.alloc (.cells #[.int .i64 e1, .int .i64 e2, .int .i64 e3] 26 (0, 0))) := below_alloc (Below.refl _ _) _
  have hM3 := hM2.out.below hb2
  have hF3 : Far (Mown mb L B) w (w2.alloc (.cells #[.int .i64 e1, .int .i64 e2, .int .i64 e3] 26 (0, 0))) := hF2.out.then_ (Far.of_below hb2)
  have q3 := blk_below q2.out hb2
  generalize w2.alloc (.cells #[.int .i64 e1, .int .i64 e2, .int .i64 e3] 26 (0, 0)) = w3 at *
  have k3 : w3.cell? ⟨w.heap.size, 1, none⟩ = some (.int .i64 k1) := (blk_cell q3 1).trans rfl
  replace hM3 := Aside0.mk hM3
  replace hF3 := Aside0.mk hF3
  clear hb2 q3 hM2 hF2 q2 hE he1
  by_cases c0 : E = 0
  · have b0 : (E == 0) = true := beq_iff_eq.mpr c0
    have hpr : permB k1 = true ∧ hv = true := by
      have h1 := hEE.out
      rw [c0] at h1
      unfold protE at h1
      split at h1
      · rename_i h2; exact absurd h1.symm h2
      · split at h1
        · cases h1
        · rename_i h3
          split at h1
          · rename_i h4
            exact ⟨by simpa using h3, by rw [hh.out, ← hq.out]; exact h4⟩
          · cases h1
    obtain ⟨hpr, hvt⟩ := hpr
    have hpv2 := hpv.out
    rw [hvt, if_pos rfl] at hpv2
    have hg : hasP L q = true := by rw [← hh.out]; exact hvt
    obtain ⟨p, hp1, hp2⟩ := hasP_iff.1 hg
    have hL : L2 = repP L ⟨p.n, k1, p.data⟩ := by
      rw [hL2.out]
      unfold protL
      rw [← hEE.out, if_pos c0, hq.out, ← hp2, hM3.out.srt.get hp1]
    have hpg := hM3.out.pg p hp1
    have hpd := hM3.out.dt p hp1
    have hpo := hM3.out.okp p hp1
    have kp : w3.cell? ⟨(B p.n).1, 0, none⟩ = some (.int .i64 p.perm) := (blk_cell hpg 0).trans rfl
    have fp := blk_frozen hpg 0
    have hS : Far (fun k => k = (B p.n).1 ∨ k = (B p.n).2) w3 (w3.setCell ⟨(B p.n).1, 0, none⟩ (.int .i64 k1)) := Far.setS (Far.refl _ w3) (.inl rfl) _ _
    have hne : (B p.n).2 ≠ (B p.n).1 := blk_ne hpd hpg (by decide)
    have hR := Aside0.mk (hM3.out.rep p hp1 ⟨p.n, k1, p.data⟩ rfl ⟨hpr, hpo.2.2.1, hpo.2.2.2⟩ hS (blk_put hpg 0 (.int .i64 k1) (by simp)) ((Far.setS (S := fun k => k = (B p.n).1) (Far.refl _ w3) rfl _ _).blk hpd hne))
    have hR2 := Aside0.mk (hF3.out.then_ (far_mono_own hp1 hS))
    simp only [ptrV] at hpv2
    rw [← hp2] at hpv2
    subst hpv2
    generalize (B p.n).1 = pb at *
    replace hL := Aside0.mk hL
    clear c0 hpr hvt hg hp1 hp2 hpg hpd hpo hS hne hpv
    go_wp2
    go_returns
    rw [hL.out]
    exact ⟨rfl, hR.out.e, hR2.out⟩
  · have b0 : (E == 0) = false := beq_eq_false_iff_ne.mpr c0
    have hL : L2 = L := by
      rw [hL2.out]
      unfold protL
      rw [← hEE.out, if_neg c0]
    replace hL := Aside0.mk hL
    clear c0 hpv hh
    go_wp2
    go_returns
    rw [hL.out]
    exact ⟨rfl, hM3.out.e, hF3.out⟩
end Go.Proofs.Ytgcgnpinhlmmjaa.Hand
