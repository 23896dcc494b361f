/- Map: walked. -/
import Derived.Test.YtgcgnpinhlmmjaaA5
import Derived.Deep.RegionHeld3
namespace Go.Proofs.Ytgcgnpinhlmmjaa.Hand
set_option linter.unusedVariables false
set_option linter.unusedSimpArgs false
open Go.RowKit Go.Maps Go.Proofs.Ytgcgnpinhlmmjaa.R Go.Proofs.Ytgcgnpinhlmmjaa.Va Go.Proofs.YtgcgnpinhlmmjaaW.PrintWords Go.Proofs.YtgcgnpinhlmmjaaW.PrintLast Go.Proofs.YtgcgnpinhlmmjaaW.PrintMore

/-- A model behind an op: pages' blocks are the old ones, or new. -/
structure MN (w w' : World) (base bb mb cnt : Nat) (L L' : List Pg) (B : Int → Nat × Nat) : Prop where
  out : ∃ B', ME w' base bb mb cnt L' B' ∧ (∀ k, Mown mb L' B' k → Mown mb L B k ∨ w.heap.size ≤ k) ∧ Far (Mown mb L B) w w'
theorem MN.mk' {w w' : World} {base bb mb cnt : Nat} {L L' : List Pg} {B : Int → Nat × Nat} (B' : Int → Nat × Nat) (h : ME w' base bb mb cnt L' B') (h2 : ∀ k, Mown mb L' B' k → Mown mb L B k ∨ w.heap.size ≤ k) (h3 : Far (Mown mb L B) w w') : MN w w' base bb mb cnt L L' B := ⟨⟨B', h, h2, h3⟩⟩
/-- A page put in. -/
theorem MD.ins {w w' : World} {base bb mb cnt : Nat} {D : DataW Unit} {L : List Pg} {B : Int → Nat × Nat} (h : MD w base bb mb cnt D L B) (x : Pg) (hn : hasP L x.n = false) (pb db : Nat) (hpb : w.heap.size ≤ pb) (hdb : w.heap.size ≤ db) (f : Far (fun k => k = mb) w w')
    (ho : w'.ownsMap Try.prog 3 ptrR mb (cnt + 1) (D.put (.int .i64 x.n) (ptrD (some pb)))) (hx : okP [x])
    (h1 : w'.heap[pb]? = some (.cells #[.int .i64 x.perm, .slice (some ⟨db, 0, none⟩) 4096 4096] 75 (0, 0))) (h2 : w'.heap[db]? = some (.cells (bs x.data) 5 (0, 0))) :
    MD w' base bb mb (cnt + 1) (D.put (.int .i64 x.n) (ptrD (some pb))) (insP L x) (fun k => if k = x.n then (pb, db) else B k) := by
  have hMap := h.own.isMap
  obtain ⟨es, clock, hm, _⟩ := h.own
  have n1 : bb ≠ mb := fun e => by have := h.blk; rw [e, hm] at this; cases this
  have hno : ∀ p ∈ L, p.n ≠ x.n := fun p hp e => by rw [hasP_iff.2 ⟨p, hp, e⟩] at hn; cases hn
  have hlt := fun p (hp : p ∈ L) => h.own_lt _ (.inr (.inr ⟨p, hp, .inl rfl⟩))
  have hlt2 := fun p (hp : p ∈ L) => h.own_lt _ (.inr (.inr ⟨p, hp, .inr rfl⟩))
  have hbase := (h.own_lt _ (.inl rfl))
  refine ⟨f.blk h.blk n1, ho, h.srt.ins x hn, fun p hp => ?_, fun k => ?_, fun p hp z => ?_, fun p hp => ?_, fun p hp => ?_, fun p hp q hq hne => ?_, h.lo.1, h.lo.2.1, fun p hp => ?_⟩
  · rcases mem_insP.1 hp with rfl | hp
    · exact hx _ (List.mem_singleton.2 rfl)
    · exact h.okp p hp
  · by_cases e : k = x.n
    · subst e
      rw [has_put_same hMap (isKeyI _)]
      exact (hasP_iff.2 ⟨x, mem_insP.2 (.inl rfl), rfl⟩).symm
    · rw [has_put_other (lit_ne e), h.has k, Bool.eq_iff_iff, hasP_iff, hasP_iff]
      constructor
      · rintro ⟨p, hp, e2⟩
        exact ⟨p, mem_insP.2 (.inr hp), e2⟩
      · rintro ⟨p, hp, e2⟩
        rcases mem_insP.1 hp with rfl | hp
        · exact absurd e2.symm e
        · exact ⟨p, hp, e2⟩
  · rcases mem_insP.1 hp with rfl | hp
    · rw [if_pos rfl]
      exact atKey_put_same hMap (isKeyI _) _ _
    · rw [if_neg (hno p hp), atKey_put_other (lit_ne (hno p hp))]
      exact h.at_ p hp z
  · rcases mem_insP.1 hp with rfl | hp
    · simp only [if_true]; exact h1
    · simp only [if_neg (hno p hp)]
      exact f.blk (h.pg p hp) (fun e => by have := h.pg p hp; rw [e, hm] at this; cases this)
  · rcases mem_insP.1 hp with rfl | hp
    · simp only [if_true]; exact h2
    · simp only [if_neg (hno p hp)]
      exact f.blk (h.dt p hp) (fun e => by have := h.dt p hp; rw [e, hm] at this; cases this)
  · rcases mem_insP.1 hp with e1 | hp1 <;> rcases mem_insP.1 hq with e2 | hq1
    · exact absurd (by rw [e1, e2]) hne
    · rw [e1]
      simp only [if_true, if_neg (hno q hq1)]
      have := hlt q hq1
      have := hlt2 q hq1
      omega
    · rw [e2]
      simp only [if_true, if_neg (hno p hp1)]
      have := hlt p hp1
      have := hlt2 p hp1
      omega
    · simp only [if_neg (hno p hp1), if_neg (hno q hq1)]
      exact h.ap p hp1 q hq1 hne
  · rcases mem_insP.1 hp with rfl | hp
    · simp only [if_true]
      omega
    · simp only [if_neg (hno p hp)]
      exact h.lo.2.2 p hp
set_option maxHeartbeats 8000000 in
set_option maxRecDepth 100000 in
theorem mapped_calls (base bb mb cnt : Nat) (D : DataW Unit) (L : List Pg) (B : Int → Nat × Nat) (k0 k1 n : Int) (a : Nat) (ha : a < 18446744073709551616) (v4 : Value) (w : World) (h : MD w base bb mb cnt D L B) (hcnt : cnt ≤ 1000000) :
    Calls Try.prog 43 #[.pointer (some ⟨bb, 0, none⟩), .agg #[.int .i64 k0, .int .i64 k1, .int .i64 n, .int .u64 (a : Int), v4]] w fun e w' => e = .returned (.int .i64 (mapE L a k1)) ∧ MN w w' base bb mb (cnt + 1) L (mapL L a k1) B := by
  have hb1 := below_alloc (Below.refl _ w) (.cells #[.int .i64 k0, .int .i64 k1, .int .i64 n, .int .u64 (a : Int), v4] 25 (0, 0))
  have q0 := blk_new w (.cells #[.int .i64 k0, .int .i64 k1, .int .i64 n, .int .u64 (a : Int), v4] 25 (0, 0))
  have h1 := h.below hb1
  have hF := Far.of_below (S := Mown mb L B) hb1
  have hP := Aside0.mk (page_calls a ha)
  have hA := Aside0.mk (at_calls a ha)
  have hE : mapE L a k1 = firstE [atE a, if permB k1 = true then 0 else 1, if (!hasP L (pnum a)) = true then 0 else 7] := by
    unfold mapE firstE firstE firstE firstE
    by_cases e : atE a = 0
    · rw [if_neg (by omega), if_pos e]
      cases permB k1 with
      | false => rfl
      | true => cases hasP L (pnum a) <;> rfl
    · rw [if_pos e, if_neg e]
  replace hb1 := Aside0.mk hb1
  have hlk : ∀ W, Below w.heap.size w W → _ := fun W hW => h.look_ok (pnum a) (pnum_lt a) W hW
  rw [pbOf_has] at hlk
  have hkey : keyOf Try.prog 3 (.int .i64 (pnum a)) = some (.int .i64 (pnum a)) := keyOf_int_mk Try.underlying3 (WalkArith.wf_i64 (by have := pnum_lt a; omega))
  replace hkey := Aside0.mk hkey
  obtain ⟨E, hEE⟩ : ∃ E, E = mapE L a k1 := ⟨_, rfl⟩
  rw [← hEE] at hE ⊢
  replace hEE := Aside0.mk hEE
  obtain ⟨L2, hL2⟩ : ∃ l, l = mapL L a k1 := ⟨_, rfl⟩
  rw [← hL2]
  replace hL2 := Aside0.mk hL2
  have hPm := Aside0.mk (perm_calls k1)
  obtain ⟨hp, hpe⟩ : ∃ b, b = permB k1 := ⟨_, rfl⟩
  rw [← hpe] at hPm hE
  have hpe2 := Aside0.mk hpe
  clear hpe
  clear h ha
  go_enter Try.func43, Try.ntmps43
  go_upto_region 1 with fail
  have hlk2 := fun N => hlk (((w.alloc (.cells #[.int .i64 k0, .int .i64 k1, .int .i64 n, .int .u64 (a : Int), v4] 25 (0, 0)))).drewN N) (pw_below_drewN hb1.out N)
  clear hlk
  generalize w.alloc (.cells #[.int .i64 k0, .int .i64 k1, .int .i64 n, .int .u64 (a : Int), v4] 25 (0, 0)) = w1 at *
  have kb : w1.cell? ⟨bb, 0, none⟩ = some (.map (some mb)) := (blk_cell h1.blk 0).trans rfl
  have k3 : w1.cell? ⟨w.heap.size, 3, none⟩ = some (.int .u64 (a : Int)) := (blk_cell q0 3).trans rfl
  replace h1 := Aside0.mk h1
  replace hF := Aside0.mk hF
  replace q0 := Aside0.mk q0
  obtain ⟨hv, hh⟩ : ∃ b, b = hasP L (pnum a) := ⟨_, rfl⟩
  obtain ⟨e1, he1⟩ : ∃ e, e = atE a := ⟨_, rfl⟩
  rw [← hh] at hE hlk2
  rw [← he1] at hE hA
  obtain ⟨pv, hpv⟩ : ∃ p, p = ptrV (if hv = true then some (B (pnum a)).1 else none) := ⟨_, rfl⟩
  rw [← hpv] at hlk2
  replace hpv := Aside0.mk hpv
  replace hh := Aside0.mk hh
  replace he1 := Aside0.mk he1
  have hW2 := Aside0.mk (wants_calls (!hv) 7)
  have hW1 := Aside0.mk (wants_calls hp 1)
  generalize (if (!hv) = true then (0 : Int) else 7) = e3 at hE hW2
  generalize (if hp = true then (0 : Int) else 1) = e2 at hE hW1
  have hFi := Aside0.mk (fun W : World => first_calls W.heap.size [e1, e2, e3] (W.alloc (.cells #[.int .i64 e1, .int .i64 e2, .int .i64 e3] 26 (0, 0))) (blk_new W _) (by simp))
  rw [← hE] at hFi
  replace hE := Aside0.mk hE
  generalize hq : pnum a = q at *
  replace hq := Aside0.mk hq
  go_quiet (first | (go_at_call 35; (with_reducible refine (hP.out _).mono ?_); rintro e w' ⟨rfl, rfl⟩; exact ⟨rfl, _, rfl⟩))
  clear hlk2
  have hM1 := h1.out.drewN nq
  have hF1 : Far (Mown mb L B) w (w1.drewN nq) := hF.out.then_ (Far.of_below (pw_below_drewN (Below.refl _ _) nq))
  have q1 := blk_drewN q0.out nq
  clear kb k3 q0 hF h1 hb1
  generalize w1.drewN nq = wx at *
  have k3' : wx.cell? ⟨w.heap.size, 3, none⟩ = some (.int .u64 (a : Int)) := (blk_cell q1 3).trans rfl
  have k1' : wx.cell? ⟨w.heap.size, 1, none⟩ = some (.int .i64 k1) := (blk_cell q1 1).trans rfl
  have hM2 := hM1.drew
  have hF2 := hF1.drew
  have q2 := blk_drew q1
  replace hM2 := Aside0.mk hM2
  replace hF2 := Aside0.mk hF2
  replace q2 := Aside0.mk q2
  clear hM1 hF1 q1
  go_upto_region 2 with fail
  refine wp_region_still_tail 10 (by kernel_rfl) (by kernel_rfl) ?_
  simp only [List.take_succ_cons, List.take_zero, List.drop_succ_cons, List.drop_zero]
  repeat still_step
  still_call (hA.out _)
  repeat still_step
  still_call (hPm.out _)
  repeat still_step
  still_call (hW1.out _)
  repeat still_step
  still_call (hW2.out _)
  repeat still_step
  refine wpStill_nil ?_
  change wpList _ _ _ _ _ wx.drew
  clear k3' k1'
  generalize wx.drew = w2 at *
  go_upto_region 3 with (go_at_call 56; refine (hFi.out w2).mono ?_; rintro e w9 ⟨rfl, rfl⟩)
  clear hFi hW2 hW1 hA hPm
  have hb2 : Below w2.heap.size w2 (w2.alloc (.cells #[.int .i64 e1, .int .i64 e2, .int .i64 e3] 26 (0, 0))) := below_alloc (Below.refl _ _) _
  have hM3 := hM2.out.below hb2
  have hF3 : Far (Mown mb L B) w (w2.alloc (.cells #[.int .i64 e1, .int .i64 e2, .int .i64 e3] 26 (0, 0))) := hF2.out.then_ (Far.of_below hb2)
  have q3 := blk_below q2.out hb2
  generalize w2.alloc (.cells #[.int .i64 e1, .int .i64 e2, .int .i64 e3] 26 (0, 0)) = w3 at *
  have k3 : w3.cell? ⟨w.heap.size, 1, none⟩ = some (.int .i64 k1) := (blk_cell q3 1).trans rfl
  replace hM3 := Aside0.mk hM3
  replace hF3 := Aside0.mk hF3
  have k4 : w3.cell? ⟨w.heap.size, 3, none⟩ = some (.int .u64 (a : Int)) := (blk_cell q3 3).trans rfl
  replace q3 := Aside0.mk q3
  clear hb2 hM2 hF2 q2 hE he1
  by_cases c0 : E = 0
  · have b0 : (E == 0) = true := beq_iff_eq.mpr c0
    have hpr : permB k1 = true ∧ hv = false := by
      have h1 := hEE.out
      rw [c0] at h1
      unfold mapE at h1
      split at h1
      · rename_i h2; exact absurd h1.symm h2
      · split at h1
        · cases h1
        · rename_i h3
          split at h1
          · cases h1
          · rename_i h4
            exact ⟨by simpa using h3, by rw [hh.out, ← hq.out]; simpa using h4⟩
    obtain ⟨hpr, hvt⟩ := hpr
    have hg : hasP L q = false := by rw [← hh.out]; exact hvt
    have hL : L2 = insP L ⟨q, k1, List.replicate 4096 0⟩ := by
      rw [hL2.out]
      unfold mapL
      rw [← hEE.out, if_pos c0, hq.out]
    obtain ⟨Z, hZ⟩ : ∃ Z, Z = bs (List.replicate 4096 0) := ⟨_, rfl⟩
    have hmk : ∀ W : World, (Instr.makeSlice 23 (.int .i64 4096) (.int .i64 4096)).run Try.prog W = .ok (.slice (some ⟨W.heap.size, 0, none⟩) 4096 4096) (W.alloc (.cells Z 5 (0, 0))) := by
      intro W
      obtain ⟨i0, hi, hz0, hz1, hz2⟩ := info_parts info5
      have := run_make (P := Try.prog) W 23 5 i0 (.int .u8 0) Try.underlying23 hi hz0 .i64 .i64 4096 4096 (by omega) (Int.le_refl _) (by rw [hz2]; omega) (by omega)
      rw [hz1, Nat.mul_one] at this
      rw [this, hZ, ← bs_zero]
      rfl
    replace hL := Aside0.mk hL
    replace hg := Aside0.mk hg
    replace hpr := Aside0.mk hpr
    replace hZ := Aside0.mk hZ
    have hq36 : 0 ≤ q ∧ q < 68719476736 := by rw [← hq.out]; exact pnum_lt a
    have kb : w3.cell? ⟨bb, 0, none⟩ = some (.map (some mb)) := (blk_cell hM3.out.blk 0).trans rfl
    replace hmk := Aside0.mk hmk
    replace hq36 := Aside0.mk hq36
    clear c0 hpv hh
    go_upto_region 4 with fail
    replace hmk := hmk.out
    have hbl : Below w3.heap.size w3 (((w3.alloc (.cells Z 5 (0, 0))).alloc (.cells #[.int .i64 k1, .slice (some ⟨w3.heap.size, 0, none⟩) 4096 4096] 75 (0, 0))).drew) := below_drew1 (below_alloc (below_alloc (Below.refl _ _) _) _)
    have hM4 := hM3.out.below hbl
    have hF4 := hF3.out.then_ (Far.of_below (S := Mown mb L B) hbl)
    have s0 : (((w3.alloc (.cells Z 5 (0, 0))).alloc (.cells #[.int .i64 k1, .slice (some ⟨w3.heap.size, 0, none⟩) 4096 4096] 75 (0, 0))).drew).heap[w3.heap.size]? = _ := blk_drew (blk_alloc (blk_new w3 (.cells Z 5 (0, 0))) _)
    have s1 : (((w3.alloc (.cells Z 5 (0, 0))).alloc (.cells #[.int .i64 k1, .slice (some ⟨w3.heap.size, 0, none⟩) 4096 4096] 75 (0, 0))).drew).heap[(w3.alloc (.cells Z 5 (0, 0))).heap.size]? = _ := blk_drew (blk_new (w3.alloc (.cells Z 5 (0, 0))) (.cells #[.int .i64 k1, .slice (some ⟨w3.heap.size, 0, none⟩) 4096 4096] 75 (0, 0)))
    rw [World.size_alloc] at s1
    obtain ⟨w5, hmu, hown5, hgr5⟩ := hM4.own.update law3 Try.underlying66 (by unfold maxLen; omega) (key := .int .i64 q) hkey.out (ptrR_mk (some (w3.heap.size + 1)))
    simp only [ptrV] at hmu
    have hlt3 := hM3.out.own_lt
    obtain ⟨es, clk, hmap, _⟩ := hM3.out.own
    have nb : bb ≠ mb := fun e => by have := hM3.out.blk; rw [e, hmap] at this; cases this
    have nx : w.heap.size ≠ mb := fun e => by have := q3.out; rw [e, hmap] at this; cases this
    have q5 := (far_grown hgr5).blk (blk_below q3.out hbl) nx
    have z0 : w5.cell? ⟨bb, 0, none⟩ = some (.map (some mb)) := (blk_cell ((far_grown hgr5).blk hM4.blk nb) 0).trans rfl
    have z1 : w5.cell? ⟨w.heap.size, 3, none⟩ = some (.int .u64 (a : Int)) := (blk_cell q5 3).trans rfl
    have z2 : w5.cell? ⟨w.heap.size, 1, none⟩ = some (.int .i64 k1) := (blk_cell q5 1).trans rfl
    clear hmap nb nx q5
    replace hown5 := Aside0.mk hown5
    replace hgr5 := Aside0.mk (far_grown hgr5)
    replace hM4 := Aside0.mk hM4
    replace hF4 := Aside0.mk hF4
    replace s0 := Aside0.mk s0
    replace s1 := Aside0.mk s1
    have hsz := Aside0.mk hF3.out.size
    replace hlt3 := Aside0.mk hlt3
    have hbf := Aside0.mk (Far.of_below (S := fun k => k = mb) hbl)
    clear hbl
    have hfin : MN w w5 base bb mb (cnt + 1) L L2 B := by
      rw [hL.out]
      have n0 : w3.heap.size ≠ mb := fun e => by have := hlt3.out mb (.inr (.inl rfl)); omega
      have n1 : w3.heap.size + 1 ≠ mb := fun e => by have := hlt3.out mb (.inr (.inl rfl)); omega
      have d0 := hgr5.out.blk s0.out n0
      have d1 := hgr5.out.blk s1.out n1
      rw [hZ.out] at d0
      have hM3s : MD w3 base bb mb cnt D L B := hM3.out
      have hI := MD.ins (w := w3) (w' := w5) hM3s ⟨q, k1, List.replicate 4096 0⟩ hg.out (w3.heap.size + 1) w3.heap.size (by omega) (Nat.le_refl _) (hbf.out.then_ hgr5.out) hown5.out (by
        intro p hp
        rw [List.mem_singleton.1 hp]
        exact ⟨hq36.out, hpr.out, List.length_replicate, fun x hx => by rw [List.eq_of_mem_replicate hx]; omega⟩) d1 d0
      refine MN.mk' _ hI.e (fun k hk => ?_) (hF4.out.then_ (hgr5.out.mono (fun k hk => .inl hk)))
      rcases hk with rfl | ⟨p, hp, hk⟩
      · exact .inl (.inl rfl)
      · rcases mem_insP.1 hp with rfl | hp
        · simp only [if_true] at hk
          have := hsz.out
          exact .inr (by omega)
        · have hne : p.n ≠ q := fun e => by have := hg.out; rw [hasP_iff.2 ⟨p, hp, e⟩] at this; cases this
          simp only [if_neg hne] at hk
          exact .inl (.inr ⟨p, hp, hk⟩)
    replace hfin := Aside0.mk hfin
    go_region_held3 (fun w' => w'.cell? ⟨bb, 0, none⟩ = some (.map (some mb)) ∧ w'.cell? ⟨w.heap.size, 3, none⟩ = some (.int .u64 (a : Int)) ∧ w'.cell? ⟨w.heap.size, 1, none⟩ = some (.int .i64 k1))
      (first | go_keep)
      (first | (go_at_call 35; refine (hP.out _).mono ?_; rintro e w9 ⟨rfl, rfl⟩))
    all_goals (go_wp2; go_returns; exact ⟨rfl, hfin.out⟩)
  · have b0 : (E == 0) = false := beq_eq_false_iff_ne.mpr c0
    have hL : L2 = L := by
      rw [hL2.out]
      unfold mapL
      rw [← hEE.out, if_neg c0]
    replace hL := Aside0.mk hL
    clear c0 hpv hh
    go_wp2
    go_returns
    rw [hL.out]
    exact ⟨rfl, MN.mk' B (hM3.out.mono (Nat.le_succ _)).e (fun k hk => .inl hk) hF3.out⟩
end Go.Proofs.Ytgcgnpinhlmmjaa.Hand
