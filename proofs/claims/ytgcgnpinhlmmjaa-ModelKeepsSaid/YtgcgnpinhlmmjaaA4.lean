/- Load, Fetch, Store: walked. -/
import Derived.Test.YtgcgnpinhlmmjaaA3
namespace Go.Proofs.Ytgcgnpinhlmmjaa.Hand
set_option linter.unusedVariables false
set_option linter.unusedSimpArgs false
open Go.RowKit Go.Maps Go.Proofs.Ytgcgnpinhlmmjaa.R Go.Proofs.Ytgcgnpinhlmmjaa.Va Go.Proofs.YtgcgnpinhlmmjaaW.PrintWords Go.Proofs.YtgcgnpinhlmmjaaW.PrintLast Go.Proofs.YtgcgnpinhlmmjaaW.PrintMore

abbrev RB (w : World) (base : Nat) (ok : Nat → Prop) (v : Value) (xs : List Int) : Prop := Kd.R (Kd.int .u8) 5 w base ok v xs
theorem rb_of_blk {w : World} {base rb : Nat} {xs : List Int} {n : Nat} (h : w.heap[rb]? = some (.cells (bs xs) 5 (0, 0))) (hn : xs.length = n) (hm : n ≤ 1000000) (hb : base ≤ rb) : RB w base (fun _ => True) (.slice (some ⟨rb, 0, none⟩) n n) xs := by
  refine Kd.R_of_own ⟨by rw [encs_length, Nat.mul_one], .inr ⟨rb, n, bs xs, by rw [hn], hb, h, by omega, by unfold maxLen; omega, by unfold bs; simp [hn], ?_⟩⟩ (fun _ _ => trivial)
  unfold bs encs
  simp [List.take_of_length_le]
theorem mayB_range {L : List Pg} {a : Nat} {n use : Int} (h : mayB L a n use = 0) : 1 ≤ n ∧ n ≤ 64 ∧ ∀ j, j < n.toNat → may1 L a use j = 0 := by
  unfold mayB at h
  split at h
  · cases h
  · split at h
    · cases h
    · exact ⟨by omega, by omega, fun j hj => mayF_zero h j (by omega) (by omega)⟩
theorem midR_zero (L : List Pg) (a n : Nat) : midR L a n 0 = List.replicate n 0 := rfl

set_option maxHeartbeats 8000000 in
set_option maxRecDepth 100000 in
theorem read_calls (base bb mb cnt : Nat) (D : DataW Unit) (L : List Pg) (B : Int → Nat × Nat) (k0 k1 n : Int) (a : Nat) (ha : a < 18446744073709551616) (v4 : Value) (use : Int) (w : World) (h : MD w base bb mb cnt D L B) :
    Calls Try.prog 46 #[.pointer (some ⟨bb, 0, none⟩), .agg #[.int .i64 k0, .int .i64 k1, .int .i64 n, .int .u64 (a : Int), v4], .int .i64 use] w fun e w' => ∃ v, e = .returned (.agg #[.int .i64 (mayB L a n use), .int .i64 0, v]) ∧ RB w' w.heap.size (fun _ => True) v (readD L a n use) ∧ Below w.heap.size w w' := by
  have hb1 := below_alloc (below_alloc (Below.refl _ w) (.cells #[.int .i64 k0, .int .i64 k1, .int .i64 n, .int .u64 (a : Int), v4] 25 (0, 0))) (.cells #[.int .i64 0, .int .i64 0, .slice none 0 0] 28 (0, 0))
  have q0 := blk_alloc (blk_new w (.cells #[.int .i64 k0, .int .i64 k1, .int .i64 n, .int .u64 (a : Int), v4] 25 (0, 0))) (.cells #[.int .i64 0, .int .i64 0, .slice none 0 0] 28 (0, 0))
  have q1 := blk_new (w.alloc (.cells #[.int .i64 k0, .int .i64 k1, .int .i64 n, .int .u64 (a : Int), v4] 25 (0, 0))) (.cells #[.int .i64 0, .int .i64 0, .slice none 0 0] 28 (0, 0))
  rw [World.size_alloc] at q1
  have hM := Aside0.mk (may_calls base bb mb cnt D L B a ha n use _ (h.below hb1))
  have hz : ((w.alloc (.cells #[.int .i64 k0, .int .i64 k1, .int .i64 n, .int .u64 (a : Int), v4] 25 (0, 0))).alloc (.cells #[.int .i64 0, .int .i64 0, .slice none 0 0] 28 (0, 0))).heap.size = w.heap.size + 2 := by rw [World.size_alloc, World.size_alloc]
  replace hb1 := Aside0.mk hb1
  replace q0 := Aside0.mk q0
  replace q1 := Aside0.mk q1
  replace h := Aside0.mk h
  replace hz := Aside0.mk hz
  obtain ⟨E, hE⟩ : ∃ E, E = mayB L a n use := ⟨_, rfl⟩
  rw [← hE] at hM ⊢
  by_cases c0 : E = 0
  · subst c0
    obtain ⟨n1, n2, n3⟩ := mayB_range hE.symm
    obtain ⟨m, rfl⟩ : ∃ m : Nat, n = (m : Int) := ⟨n.toNat, by omega⟩
    rw [Int.toNat_natCast] at n3
    have hrd : readD L a (m : Int) use = readF L a m := by
      unfold readD
      rw [if_pos hE.symm, Int.toNat_natCast]
    rw [hrd]
    have hm64 := Aside0.mk (show m ≤ 64 by omega)
    replace n3 := Aside0.mk n3
    clear hE n1 n2 hrd
    go_enter Try.func46, Try.ntmps46
    go_upto_region 4 with (go_at_call 59; refine hM.out.mono ?_; rintro e w2 ⟨rfl, hd⟩; replace hd := Aside0.mk hd.below)
    have p0 := blk_below q0.out hd.out
    have p1 := blk_below q1.out hd.out
    have hmk : (Instr.makeSlice 23 (.int .i64 (m : Int)) (.int .i64 (m : Int))).run Try.prog w2 = .ok (.slice (some ⟨w2.heap.size, 0, none⟩) m m) (w2.alloc (.cells (bs (List.replicate m 0)) 5 (0, 0))) := by
      obtain ⟨i0, hi, hz0, hz1, hz2⟩ := info_parts info5
      have := run_make (P := Try.prog) w2 23 5 i0 (.int .u8 0) Try.underlying23 hi hz0 .i64 .i64 (m : Int) (m : Int) (by omega) (Int.le_refl _) (by rw [hz2]; have := hm64.out; omega) (by have := hm64.out; omega)
      rw [Int.toNat_natCast, hz1, Nat.mul_one] at this
      rw [this]
      show _ = Result.ok _ (w2.alloc (.cells (bs (List.replicate m 0)) 5 (0, 0)))
      rw [← bs_zero]
      rfl
    have k02 : w2.cell? ⟨w.heap.size, 2, none⟩ = some (.int .i64 (m : Int)) := (blk_cell p0 2).trans rfl
    have s0 := blk_alloc (blk_new w2 (.cells (bs (List.replicate m 0)) 5 (0, 0))) (.cells #[.slice (some ⟨w2.heap.size, 0, none⟩) m m] 23 (0, 0))
    have s1 := blk_new (w2.alloc (.cells (bs (List.replicate m 0)) 5 (0, 0))) (.cells #[.slice (some ⟨w2.heap.size, 0, none⟩) m m] 23 (0, 0))
    have hb3 := below_alloc (below_alloc (Below.refl _ w2) (.cells (bs (List.replicate m 0)) 5 (0, 0))) (.cells #[.slice (some ⟨w2.heap.size, 0, none⟩) m m] 23 (0, 0))
    rw [World.size_alloc] at s1
    have p0' := blk_below p0 hb3
    have p1' := blk_below p1 hb3
    have hd' := hd.out.size
    rw [hz.out] at hd'
    have hM2 := ((h.out.below hb1.out).below hd.out).below hb3
    have hBB := (hb1.out.trans (Below_low hd.out (by rw [hz.out]; omega))).trans (Below_low hb3 (by omega))
    have hlt := h.out.own_lt
    replace p0 := Aside0.mk p0'
    replace p1 := Aside0.mk p1'
    replace s0 := Aside0.mk s0
    replace s1 := Aside0.mk s1
    replace hM2 := Aside0.mk hM2
    replace hBB := Aside0.mk hBB
    replace hd' := Aside0.mk hd'
    replace hlt := Aside0.mk hlt
    clear hb3 p0' p1' hd
    go_upto_region 5 with fail
    generalize ((w2.alloc (.cells (bs (List.replicate m 0)) 5 (0, 0))).alloc (.cells #[.slice (some ⟨w2.heap.size, 0, none⟩) m m] 23 (0, 0))) = w3 at *
    clear hmk k02
    have hrl := blk_lt s0.out
    have hE := Aside0.mk (each_read base bb mb cnt D L B a ha m hm64.out use (w2.heap.size + 1) w2.heap.size w3 hM2.out n3.out s1.out s0.out (fun hk => by have := hlt.out _ hk; have := hd'.out; omega))
    obtain ⟨rb, hrb⟩ : ∃ b, b = w2.heap.size := ⟨_, rfl⟩
    have hrw := Aside0.mk (show w.heap.size + 2 ≤ rb by rw [hrb]; exact hd'.out)
    rw [← hrb] at hE s0 s1 hrl ⊢
    have k3 : w3.cell? ⟨w.heap.size, 3, none⟩ = some (.int .u64 (a : Int)) := (blk_cell p0.out 3).trans rfl
    have k2 : w3.cell? ⟨w.heap.size, 2, none⟩ = some (.int .i64 (m : Int)) := (blk_cell p0.out 2).trans rfl
    clear hrb hrl hd'
    have hmf : ∀ (W : World) (A : Option Addr), (Instr.makeFunc (Fn.func 61) #[] #[.pointer A]).run Try.prog W = .ok (.func (.func 61) #[] #[.pointer A]) W := fun _ _ => by kernel_rfl
    go_upto_region 6 with (go_at_call 60; refine hE.out.mono ?_; rintro e w4 ⟨rfl, hr4, hf4⟩; replace hr4 := Aside0.mk hr4; replace hf4 := Aside0.mk hf4)
    have s1' := hf4.out.blk s1.out (by omega)
    have p1' := hf4.out.blk p1.out (by have := hrw.out; omega)
    have kx := (blk_cell s1' 0).trans rfl
    have f1 := blk_frozen p1'
    have kc0 := (blk_cell p1' 0).trans rfl
    have kc1 := (blk_cell p1' 1).trans rfl
    have kc2 := (blk_cell p1' 2).trans rfl
    have f10 := f1 0
    have f11 := f1 1
    have f12 := f1 2
    have hF := Aside0.mk (blk_put (cs' := #[.int .i64 0, .int .i64 0, .slice (some ⟨rb, 0, none⟩) m m]) (blk_put (cs' := #[.int .i64 0, .int .i64 0, .slice none 0 0]) (blk_put (cs' := #[.int .i64 0, .int .i64 0, .slice none 0 0]) p1' 0 (.int .i64 0) (by simp)) 1 (.int .i64 0) (by simp)) 2 (.slice (some ⟨rb, 0, none⟩) m m) (by simp))
    have hrl := (blk_lt s0.out)
    have hBf := Aside0.mk (hBB.out.trans (hf4.out.below (B := w.heap.size) (by have := hrw.out; omega) (fun i e => by have := hrw.out; omega)))
    have hR4 := Aside0.mk (rb_of_blk (base := w.heap.size) hr4.out (readF_length L a m) (by have := hm64.out; omega) (by have := hrw.out; omega))
    have hne := Aside0.mk (show ∀ k, True → k < w4.heap.size → k = w.heap.size + 1 → k ≠ rb from fun k _ _ e => by have := hrw.out; omega)
    have hR4r := Aside0.mk (Kd.R_mono (ok' := fun k => k ≠ w.heap.size + 1) (Kd.R_tight rfl hR4.out) (fun k e => by
      have : rb = k := (Option.some.inj e).symm
      have := hrw.out
      omega))
    clear f1 s1' p1' hr4 hf4 hM2 s0 s1 p0 p1 hBB hrl
    go_wp2
    refine bodyPost_ret (results_single rfl (.cell (w.heap.size + 1) 28 _ (0, 0) _ rfl hF.out Try.underlying28 rfl (by kernel_rfl) .nil)) rfl ⟨_, rfl, ?_, ?_⟩
    · have h1 := Kd.R_far (p := ⟨w.heap.size + 1, 0, none⟩) hR4r.out (fun k hk => hk) (.int .i64 0)
      have h2 := Kd.R_far (p := ⟨w.heap.size + 1, 1, none⟩) h1 (fun k hk => hk) (.int .i64 0)
      have h3 := Kd.R_far (p := ⟨w.heap.size + 1, 2, none⟩) h2 (fun k hk => hk) (.slice (some ⟨rb, 0, none⟩) m m)
      exact Kd.R_mono h3 (fun _ _ => trivial)
    · exact ((hBf.out.setCell (by show w.heap.size ≤ w.heap.size + 1; omega) _).setCell (by show w.heap.size ≤ w.heap.size + 1; omega) _).setCell (by show w.heap.size ≤ w.heap.size + 1; omega) _
  · have hrd : readD L a n use = [] := by
      unfold readD
      rw [if_neg (fun e => c0 (hE.trans e))]
    rw [hrd]
    have b0 : (E == 0) = false := beq_eq_false_iff_ne.mpr c0
    have b1 : (E != 0) = true := bne_iff_ne.mpr c0
    clear hE hrd c0
    go_enter Try.func46, Try.ntmps46
    go_upto_region 2 with (go_at_call 59; refine hM.out.mono ?_; rintro e w2 ⟨rfl, hd⟩; replace hd := Aside0.mk hd.below)
    have k1 := blk_below q1.out hd.out
    have f1 := blk_frozen k1
    have hB := Aside0.mk (hb1.out.trans (Below_low hd.out (by rw [hz.out]; omega)))
    have hF := Aside0.mk (blk_put (cs' := #[.int .i64 E, .int .i64 0, .slice none 0 0]) (blk_put (cs' := #[.int .i64 E, .int .i64 0, .slice none 0 0]) (blk_put (cs' := #[.int .i64 E, .int .i64 0, .slice none 0 0]) k1 0 (.int .i64 E) (by simp)) 1 (.int .i64 0) (by simp)) 2 (.slice none 0 0) (by simp))
    have kc0 := (blk_cell k1 0).trans rfl
    have kc1 := (blk_cell k1 1).trans rfl
    have kc2 := (blk_cell k1 2).trans rfl
    have f10 := f1 0
    have f11 := f1 1
    have f12 := f1 2
    clear k1 f1
    go_wp2
    refine bodyPost_ret (results_single rfl (.cell (w.heap.size + 1) 28 _ (0, 0) _ rfl hF.out Try.underlying28 rfl (by kernel_rfl) .nil)) rfl ⟨_, rfl, Kd.R_nil _ _ _ _ _, ?_⟩
    exact ((hB.out.setCell (by show w.heap.size ≤ w.heap.size + 1; omega) _).setCell (by show w.heap.size ≤ w.heap.size + 1; omega) _).setCell (by show w.heap.size ≤ w.heap.size + 1; omega) _

set_option maxHeartbeats 8000000 in
set_option maxRecDepth 100000 in
theorem stored_calls (base bb mb cnt : Nat) (D : DataW Unit) (L : List Pg) (B : Int → Nat × Nat) (k0 k1 n : Int) (a : Nat) (ha : a < 18446744073709551616) (A : Option Addr) (c : Nat) (xs : List Int) (hxs : ∀ x ∈ xs, 0 ≤ x ∧ x < 256) (w : World) (h : MD w base bb mb cnt D L B) (hdat : ∀ W, Far (Mown mb L B) w W → Kd.C (Kd.int .u8) W A xs.length xs) :
    Calls Try.prog 47 #[.pointer (some ⟨bb, 0, none⟩), .agg #[.int .i64 k0, .int .i64 k1, .int .i64 n, .int .u64 (a : Int), .slice A xs.length c]] w fun e w' => e = .returned (.int .i64 (mayB L a (xs.length : Int) 2)) ∧ MD w' base bb mb cnt D (storeL L a xs) B ∧ Far (Mown mb L B) w w' := by
  have hb1 := below_alloc (Below.refl _ w) (.cells #[.int .i64 k0, .int .i64 k1, .int .i64 n, .int .u64 (a : Int), .slice A xs.length c] 25 (0, 0))
  have q0 := blk_new w (.cells #[.int .i64 k0, .int .i64 k1, .int .i64 n, .int .u64 (a : Int), .slice A xs.length c] 25 (0, 0))
  have hM := Aside0.mk (may_calls base bb mb cnt D L B a ha (xs.length : Int) 2 _ (h.below hb1))
  have hz : (w.alloc (.cells #[.int .i64 k0, .int .i64 k1, .int .i64 n, .int .u64 (a : Int), .slice A xs.length c] 25 (0, 0))).heap.size = w.heap.size + 1 := World.size_alloc _ _
  replace hb1 := Aside0.mk hb1
  replace q0 := Aside0.mk q0
  replace h := Aside0.mk h
  replace hz := Aside0.mk hz
  replace hdat := Aside0.mk hdat
  replace hxs := Aside0.mk hxs
  obtain ⟨E, hE⟩ : ∃ E, E = mayB L a (xs.length : Int) 2 := ⟨_, rfl⟩
  rw [← hE] at hM ⊢
  by_cases c0 : E = 0
  · subst c0
    obtain ⟨n1, n2, n3⟩ := mayB_range hE.symm
    rw [Int.toNat_natCast] at n3
    have hrd : storeL L a xs = storeF L a 0 xs := by
      unfold storeL
      rw [if_pos hE.symm]
    rw [hrd]
    have hm64 := Aside0.mk (show xs.length ≤ 64 by omega)
    replace n3 := Aside0.mk n3
    clear hE n1 n2 hrd
    go_enter Try.func47, Try.ntmps47
    go_upto_region 3 with (go_at_call 59; refine hM.out.mono ?_; rintro e w2 ⟨rfl, hd⟩; replace hd := Aside0.mk hd.below)
    have p0 := blk_below q0.out hd.out
    have k3 : w2.cell? ⟨w.heap.size, 3, none⟩ = some (.int .u64 (a : Int)) := (blk_cell p0 3).trans rfl
    have k4 : w2.cell? ⟨w.heap.size, 4, none⟩ = some (.slice A xs.length c) := (blk_cell p0 4).trans rfl
    have hf2 : Far (Mown mb L B) w w2 := Far.of_below (hb1.out.trans (Below_low hd.out (by rw [hz.out]; omega)))
    have hE := Aside0.mk (each_store base bb mb cnt D L B a ha xs hxs.out hm64.out 2 A c w.heap.size _ _ _ _ w2 ((h.out.below hb1.out).below hd.out) n3.out p0 (fun hk => by have := h.out.own_lt _ (.inr hk); omega) (fun W hW => hdat.out W (hf2.then_ hW)))
    replace hf2 := Aside0.mk hf2
    have hmf : ∀ (W : World) (A : Option Addr), (Instr.makeFunc (Fn.func 62) #[] #[.pointer A]).run Try.prog W = .ok (.func (.func 62) #[] #[.pointer A]) W := fun _ _ => by kernel_rfl
    clear p0 hd
    go_wp2_with (go_at_call 60; refine hE.out.mono ?_; rintro e w4 ⟨rfl, hr4, hf4⟩; replace hr4 := Aside0.mk hr4; replace hf4 := Aside0.mk hf4)
    go_returns
    exact ⟨rfl, hr4.out, hf2.out.then_ hf4.out⟩
  · have hrd : storeL L a xs = L := by
      unfold storeL
      rw [if_neg (fun e => c0 (hE.trans e))]
    rw [hrd]
    have b0 : (E == 0) = false := beq_eq_false_iff_ne.mpr c0
    have b1 : (E != 0) = true := bne_iff_ne.mpr c0
    clear hE hrd c0
    go_enter Try.func47, Try.ntmps47
    go_wp2_with (go_at_call 59; refine hM.out.mono ?_; rintro e w2 ⟨rfl, hd⟩; replace hd := Aside0.mk hd.below)
    go_returns
    exact ⟨rfl, (h.out.below hb1.out).below hd.out, Far.of_below (hb1.out.trans (Below_low hd.out (by rw [hz.out]; omega)))⟩
end Go.Proofs.Ytgcgnpinhlmmjaa.Hand
