/- ZspageReads, walked. -/
import Derived.Test.YtejeehcmcadmcaaA2
import Derived.Deep.QuietTactic
import Derived.BigQuiet
import Derived.IntWalk
namespace Go.Proofs.Ytejeehcmcadmcaa.Hand
set_option linter.unusedVariables false
set_option linter.unusedSimpArgs false
open Go.RowKit Go.Proofs.Ytejeehcmcadmcaa.R Go.Proofs.YtejeehcmcadmcaaW.PrintWords Go.Proofs.YtejeehcmcadmcaaW.PrintLast Go.Proofs.YtejeehcmcadmcaaW.PrintMore

theorem BR_length (i : Nat) (h : i ≤ 8) : (BR i).length = 32768 := by
  unfold BR
  rw [List.length_append, patsR_length, List.length_replicate]
  omega
theorem thereB_R (s n f m : Nat) (hm : mayB (s : Int) (n : Int) (f : Int) (m : Int) = true) : thereB (ownR 4) 2 0 1 (s : Int) (n : Int) (f : Int) (m : Int) = decide (m = 0 ∨ s * n + f + m ≤ 12288) := by
  have h := of_decide_eq_true hm
  unfold thereB
  rw [hm, Bool.true_and, show ((s : Int) * (n : Int) + (f : Int)).toNat = s * n + f by rw [← Int.natCast_mul]; omega, Int.toNat_natCast]
  exact all_fine _ _ (by omega)
theorem thereB_7 (s n f m : Nat) (h0 : m ≠ 0) : thereB (ownR 4) 7 7 7 (s : Int) (n : Int) (f : Int) (m : Int) = false := by
  unfold thereB
  rw [all_7 _ _ (by rw [Int.toNat_natCast]; exact h0), Bool.and_false]
theorem readL_no (B : List Int) (f0 f1 f2 a0 a1 a2 a3 : Int) (own : List Int) (h : thereB own f0 f1 f2 a0 a1 a2 a3 = false) : readL own B f0 f1 f2 a0 a1 a2 a3 = [] := by
  unfold readL
  rw [h]
  rfl
theorem readL_R {B : List Int} (hB : B.length = 32768) (s n f m : Nat) (hm : mayB (s : Int) (n : Int) (f : Int) (m : Int) = true) (h : m = 0 ∨ s * n + f + m ≤ 12288) : readL (ownR 4) B 2 0 1 (s : Int) (n : Int) (f : Int) (m : Int) = ((view B).drop (s * n + f)).take m := by
  have hd := of_decide_eq_true hm
  unfold readL
  rw [thereB_R s n f m hm, decide_eq_true h, if_pos rfl, show ((s : Int) * (n : Int) + (f : Int)).toNat = s * n + f by rw [← Int.natCast_mul]; omega, Int.toNat_natCast]
  exact read_all hB _ _ (by omega) h
theorem w64p (a b : Nat) (h : a + b ≤ 9000000) : wrap64 ((a : Int) + (b : Int)) = ((a + b : Nat) : Int) := by unfold wrap64; omega
theorem bytes_same (b : List Int) : gunnyref01_Bytes.f b b = some true := by unfold gunnyref01_Bytes.f; simp
theorem i64q (q m r : Nat) (h : r = q + m) (hr : r ≤ 2000000) : IntKind.i64.wrap ((q : Int) + (m : Int)) = (r : Int) := by
  rw [IntWalk.i64_in _ (by omega)]
  omega
theorem wmul (s n p : Nat) (hp : p = s * n) (h : p ≤ 2000000) : wrap64 ((s : Int) * (n : Int)) = (p : Int) := by
  rw [← Int.natCast_mul, ← hp]
  unfold wrap64
  omega

set_option maxHeartbeats 16000000 in
set_option maxRecDepth 100000 in
theorem reads_law (a0 a1 x y : Int) (w : World) (b0 : -9223372036854775808 ≤ x) (b1 : x < 9223372036854775808) :
    Calls Try.prog 4 #[.int .i64 a0, .int .i64 a1, .agg #[.int .i64 x, .int .i64 y]] w fun e w' => e = .returned (.bool true) ∧ Below w.heap.size w w' := by
  have hbx := blk_new w (.cells #[.int .i64 x, .int .i64 y] 22 (0, 0))
  have hb0 : Below w.heap.size w (w.alloc (.cells #[.int .i64 x, .int .i64 y] 22 (0, 0))) := (Below.refl _ _).alloc (Nat.le_refl _) _
  have hz0 : (w.alloc (.cells #[.int .i64 x, .int .i64 y] 22 (0, 0))).heap.size = w.heap.size + 1 := World.size_alloc _ _
  have hrow := row_calls (w.alloc (.cells #[.int .i64 x, .int .i64 y] 22 (0, 0)))
  rw [hz0] at hrow
  have hmay := fun W => Aside0.mk (gunnyref16_May.calls a0 a1 x y (mayB a0 a1 x y) W (May_eq a0 a1 x y))
  replace hbx := Aside0.mk hbx
  replace hb0 := Aside0.mk hb0
  replace hz0 := Aside0.mk hz0
  replace hrow := Aside0.mk hrow
  replace hmay := Aside0.mk hmay
  go_enter Try.func4, Try.ntmps4
  go_upto_region 4 with (go_at_call 9; refine hrow.out.mono ?_; rintro e w2 ⟨a, t, nb, rfl, hR2, hD, hn, hnb, hb2⟩; replace hR2 := Aside0.mk hR2; replace hD := Aside0.mk hD; replace hn := Aside0.mk hn; replace hnb := Aside0.mk hnb; replace hb2 := Aside0.mk hb2)
  have hg1 : nb ≠ a.g := fun e => by
    obtain ⟨q, hq⟩ := hR2.out.of
    have h1 := hq.blk
    rw [← e, hn.out] at h1
    cases h1
  have hge := (hR2.out.own_lt a.g (.inl rfl)).1
  have hwg : Aside0 (¬ w.heap.size = a.g) := ⟨fun e => by omega⟩
  have hbw := blk_below hbx.out (by rw [hz0.out]; exact hb2.out)
  have k0 : w2.cell? ⟨w.heap.size, 0, none⟩ = some (.int .i64 x) := (blk_cell hbw 0).trans rfl
  have k1 : w2.cell? ⟨w.heap.size, 1, none⟩ = some (.int .i64 y) := (blk_cell hbw 1).trans rfl
  have hBl := BR_length 4 (by omega)
  have hW2 : Below w.heap.size w w2 := hb0.out.trans (Below_low hb2.out (by omega))
  have hZ := zread_any (w.heap.size + 1) a (ownR 4) (dn 8 4) t (BR 4) a0 a1 x y nb 3 2 0 1 w2 hR2.out hD.out hn.out b0 b1 hg1
  obtain ⟨B, hB⟩ : ∃ B, B = BR 4 := ⟨_, rfl⟩
  rw [← hB] at hZ hBl hR2 hD
  replace hB := Aside0.mk hB
  replace hbw := Aside0.mk hbw
  replace hW2 := Aside0.mk hW2
  clear hrow hbx hb0 hb2
  cases hM : mayB a0 a1 x y with
  | false =>
    rw [hM] at hmay
    have hth : thereB (ownR 4) 2 0 1 a0 a1 x y = false := by unfold thereB; rw [hM, Bool.false_and]
    rw [hth, readL_no _ _ _ _ _ _ _ _ _ hth] at hZ
    replace hZ := Aside0.mk hZ
    replace hth := Aside0.mk hth
    replace hBl := Aside0.mk hBl
    clear hM
    go_wp2_with (first | (go_at_call 10; refine hZ.out.mono ?_; rintro e w3 ⟨A, c2, rfl, hL, hR3, hF3⟩; have k0' := cell_far hF3 (fun e => hwg.out e) k0; have k1' := cell_far hF3 (fun e => hwg.out e) k1; clear hL; replace hR3 := Aside0.mk hR3; replace hF3 := Aside0.mk hF3) | (go_at_call 11; refine (hmay.out _).out.mono ?_; rintro e w4 ⟨rfl, hd4⟩; have hb4 := Aside0.mk hd4.below; clear hd4) | (go_at_call 8; refine (lives_calls _).mono ?_; rintro e w7 ⟨rfl, b7⟩; replace b7 := Aside0.mk b7))
    go_returns
    have hz2 := hW2.out.size
    have z3 := hF3.out.size
    have z4 := hb4.out.size
    exact ⟨rfl, ((hW2.out.trans (hF3.out.below (by omega) (fun k hk => by have e : k = a.g := hk; omega))).trans (Below_low hb4.out (by omega))).trans (Below_low b7.out (by omega))⟩
  | true =>
    rw [hM] at hmay
    have hmm := of_decide_eq_true hM
    obtain ⟨s, rfl⟩ : ∃ s : Nat, a0 = (s : Int) := ⟨a0.toNat, by omega⟩
    obtain ⟨n, rfl⟩ : ∃ s : Nat, a1 = (s : Int) := ⟨a1.toNat, by omega⟩
    obtain ⟨f, rfl⟩ : ∃ s : Nat, x = (s : Int) := ⟨x.toNat, by omega⟩
    obtain ⟨m, rfl⟩ : ∃ s : Nat, y = (s : Int) := ⟨y.toNat, by omega⟩
    have hth := thereB_R s n f m hM
    have hLR := readL_R hBl s n f m hM
    have hp2 : s * n ≤ 4096 * 255 := Nat.mul_le_mul (by omega) (by omega)
    obtain ⟨p, hp⟩ : ∃ p, p = s * n := ⟨_, rfl⟩
    have ew := Aside0.mk (wmul s n p hp (by omega))
    rw [← hp] at hth hLR hp2
    have m1 : s ≤ 4096 := by omega
    have m2 : f ≤ 4096 := by omega
    have m3 : m ≤ 4096 := by omega
    obtain ⟨q, hq⟩ : ∃ q, q = p + f := ⟨_, rfl⟩
    obtain ⟨r, hr⟩ : ∃ r, r = q + m := ⟨_, rfl⟩
    have ew2 : Aside0 (wrap64 ((p : Int) + (f : Int)) = (q : Int)) := ⟨by rw [hq]; exact w64p p f (by omega)⟩
    have ew3 : Aside0 (wrap64 ((q : Int) + (m : Int)) = (r : Int)) := ⟨by rw [hr]; exact w64p q m (by omega)⟩
    rw [← hq] at hLR hth
    rw [← hr] at hLR hth
    have hr2 : r ≤ 2000000 := by omega
    have hq2 : q ≤ 2000000 := by omega
    have hqr : q ≤ r := by omega
    replace hmm := Aside0.mk hmm
    replace hBl := Aside0.mk hBl
    replace hq := Aside0.mk hq
    replace hr := Aside0.mk hr
    replace hp := Aside0.mk hp
    by_cases h0 : m = 0
    · rw [decide_eq_true (.inl h0)] at hth
      rw [hLR (.inl h0), hth] at hZ
      subst h0
      rw [List.take_zero] at hZ
      replace hZ := Aside0.mk hZ
      replace hth := Aside0.mk hth
      clear hLR hM
      have ew := ew.out
      have ew2 := ew2.out
      have ew3 := ew3.out
      go_wp2_with (first | (go_at_call 10; refine hZ.out.mono ?_; rintro e w3 ⟨A, c2, rfl, hL, hR3, hF3⟩; have k0' := cell_far hF3 (fun e => hwg.out e) k0; have k1' := cell_far hF3 (fun e => hwg.out e) k1; clear hL; replace hR3 := Aside0.mk hR3; replace hF3 := Aside0.mk hF3) | (go_at_call 11; refine (hmay.out _).out.mono ?_; rintro e w4 ⟨rfl, hd4⟩; have hb4 := Aside0.mk hd4.below; have k0'' := cell_far (Far.of_below (S := fun _ => False) hd4.below) (fun h => h) k0'; have k1'' := cell_far (Far.of_below (S := fun _ => False) hd4.below) (fun h => h) k1'; clear hd4) | (go_at_call 8; refine (lives_calls _).mono ?_; rintro e w7 ⟨rfl, b7⟩; replace b7 := Aside0.mk b7))
      go_returns
      clear ew ew2 ew3
      have hz2 := hW2.out.size
      have z3 := hF3.out.size
      have z4 := hb4.out.size
      exact ⟨rfl, ((hW2.out.trans (hF3.out.below (by omega) (fun k hk => by have e : k = a.g := hk; omega))).trans (Below_low hb4.out (by omega))).trans (Below_low b7.out (by omega))⟩
    have g1 : decide ((m : Int) > 0) = true := decide_eq_true (by omega)
    have g2 : decide ((0 : Int) < (m : Int)) = true := decide_eq_true (by omega)
    have g3 : decide (0 < m) = true := decide_eq_true (by omega)
    by_cases h1 : r ≤ 12288
    · have g4 : decide ((r : Int) > 12288) = false := decide_eq_false (by omega)
      have g5 : decide ((12288 : Int) < (r : Int)) = false := decide_eq_false (by omega)
      have g6 : decide (12288 < r) = false := decide_eq_false (by omega)
      have hL0 := hLR (.inr h1)
      rw [decide_eq_true (.inr h1)] at hth
      rw [hL0, hth] at hZ
      have hvl := view_length hBl.out
      obtain ⟨L, hL⟩ : ∃ L, L = ((view B).drop q).take m := ⟨_, rfl⟩
      have hLl : L.length = m := by rw [hL, List.length_take, List.length_drop]; have := hr.out; omega
      obtain ⟨V, hV⟩ : ∃ V, V = view B := ⟨_, rfl⟩
      rw [← hL] at hZ
      have hmid : (V.take r).drop q = L := by rw [hL, hV, List.drop_take, hr.out, Nat.add_sub_cancel_left]
      rw [← hV] at hvl
      have hrq : r - q = L.length := by rw [hLl, hr.out, Nat.add_sub_cancel_left]
      have hr12 : r ≤ V.length := by rw [hvl]; exact h1
      have hL12 : L.length ≤ 12288 := by rw [hLl]; omega
      have hq0 : (0 : Int) ≤ (q : Int) := by omega
      have hqr' : (q : Int) ≤ (r : Int) := by omega
      have hrV : (r : Int) ≤ (V.length : Int) := by omega
      have h7 := thereB_7 s n f m h0
      have e0 : decide ((m : Int) = 0) = false := decide_eq_false (by omega)
      have e0' : ((m : Int) == 0) = false := beq_eq_false_iff_ne.mpr (by omega)
      replace hZ := Aside0.mk hZ
      replace hth := Aside0.mk hth
      replace h7 := Aside0.mk h7
      replace hvl := Aside0.mk hvl
      replace hmid := Aside0.mk hmid
      replace hrq := Aside0.mk hrq
      replace hr12 := Aside0.mk hr12
      replace hL12 := Aside0.mk hL12
      replace hV := Aside0.mk hV
      replace hL := Aside0.mk hL
      replace hLl := Aside0.mk hLl
      replace hq0 := Aside0.mk hq0
      replace hqr' := Aside0.mk hqr'
      replace hrV := Aside0.mk hrV
      replace h1 := Aside0.mk h1
      replace hr2 := Aside0.mk hr2
      replace hq2 := Aside0.mk hq2
      replace hqr := Aside0.mk hqr
      replace hp2 := Aside0.mk hp2
      replace m1 := Aside0.mk m1
      replace m2 := Aside0.mk m2
      replace m3 := Aside0.mk m3
      replace h0 := Aside0.mk h0
      clear hLR hM g5 g6 hL0
      have ew := ew.out
      have ew2 := ew2.out
      have ew3 := ew3.out
      go_upto_region 10 with (first | (go_at_call 10; refine hZ.out.mono ?_; rintro e w3 ⟨A, c2, rfl, hL3, hR3, hF3⟩; have k0' := cell_far hF3 (fun e => hwg.out e) k0; have k1' := cell_far hF3 (fun e => hwg.out e) k1; replace hL3 := Aside0.mk hL3; replace hR3 := Aside0.mk hR3; replace hF3 := Aside0.mk hF3) | (go_at_call 11; refine (hmay.out _).out.mono ?_; rintro e w4 ⟨rfl, hd4⟩; have hb4 := Aside0.mk hd4.below; have k0'' := cell_far (Far.of_below (S := fun _ => False) hd4.below) (fun h => h) k0'; have k1'' := cell_far (Far.of_below (S := fun _ => False) hd4.below) (fun h => h) k1'; clear hd4))
      rw [ew2]
      clear ew ew2
      have hN := zread_no' (s : Int) (n : Int) (f : Int) (m : Int) none (some ⟨nb, 0, none⟩) 3 3 w4 (fun W _ => there_nil _ _ _ _ _ _ _ W)
      replace hN := Aside0.mk hN
      go_upto_region 11 with (go_at_call 10; refine hN.out.mono ?_; rintro e w5 ⟨rfl, hb5⟩; have j0 := cell_far (Far.of_below (S := fun _ => False) hb5) (fun h => h) k0''; have j1 := cell_far (Far.of_below (S := fun _ => False) hb5) (fun h => h) k1''; replace hb5 := Aside0.mk hb5)
      have hb7 := below_alloc (Below.refl w5.heap.size w5) (.cells #[.int .i64 7, .int .i64 7, .int .i64 7] 3 (0, 0))
      have hn7 := blk_new w5 (.cells #[.int .i64 7, .int .i64 7, .int .i64 7] 3 (0, 0))
      have hR5 := (hR3.out.below hb4.out).below hb5.out
      have hgl := (hR5.own_lt a.g (.inl rfl)).2
      have hZ7 := zread_any (w.heap.size + 1) a (ownR 4) (dn 8 4) t B (s : Int) (n : Int) (f : Int) (m : Int) w5.heap.size 3 7 7 7 _ (hR5.below hb7) hD.out hn7 b0 b1 (fun e => by omega)
      rw [h7.out, readL_no _ _ _ _ _ _ _ _ _ h7.out] at hZ7
      replace hZ7 := Aside0.mk hZ7
      replace hb7 := Aside0.mk hb7
      replace hR5 := Aside0.mk hR5
      clear hn7 hgl
      have l0 := cell_far (Far.of_below (S := fun _ => False) hb7.out) (fun h => h) j0
      have l1 := cell_far (Far.of_below (S := fun _ => False) hb7.out) (fun h => h) j1
      clear b0 b1 hge
      go_upto_region 12 with (go_at_call 10; refine hZ7.out.mono ?_; rintro e w6 ⟨A6, c6, rfl, hL6, hR6, hF6⟩; have i0 := cell_far hF6 (fun e => hwg.out e) l0; have i1 := cell_far hF6 (fun e => hwg.out e) l1; clear hL6; replace hR6 := Aside0.mk hR6; replace hF6 := Aside0.mk hF6)
      have hR6' := hR6.out
      have hvw := allB_view (B := B)
      rw [← hV.out] at hvw
      have hnb6 : w6.heap[nb]? = some (.cells (([2, 0, 1] : List Int).map (Value.int .i64)).toArray 3 (0, 0)) := by
        have h1 := hF3.out.blk hn.out (fun e => hg1 e)
        have h2 := blk_below (blk_below (blk_below h1 hb4.out) hb5.out) hb7.out
        exact hF6.out.blk h2 (fun e => hg1 e)
      have hAll := fun N => all_calls (w.heap.size + 1) a (ownR 4) (dn 8 4) t B nb 3 [2, 0, 1] (w6.drewN N) (hR6'.below (pw_below_drewN (Below.refl _ _) N)) hD.out (blkd hnb6) (by decide) hg1
      rw [hvw] at hAll
      have hLr : ∀ N, RB (w6.drewN N) w2.heap.size (fun _ => True) (.slice A L.length c2) L := fun N => by
        have hag := (hR2.out.own_lt a.g (.inl rfl)).2
        have s1 : RB w3 w2.heap.size (fun k => some k = (Value.slice A L.length c2).ownBlock) (.slice A L.length c2) L := Kd.R_tight rfl hL3.out
        have s2 := Kd.R_below (Kd.R_below (Kd.R_below s1 hb4.out) hb5.out) hb7.out
        have s3 := Kd.R_step s2 (fun i hi hlt => hF6.out.block i hlt (fun e => by have e' : i = a.g := e; have := Kd.R_base hL3.out i hi.symm; omega))
        exact Kd.R_mono (Kd.R_drewN s3 N) (fun _ _ => trivial)
      have hsz2 := (hR2.out.own_lt a.g (.inl rfl)).2
      replace hAll := Aside0.mk hAll
      replace hLr := Aside0.mk hLr
      replace hvw := Aside0.mk hvw
      replace hnb6 := Aside0.mk hnb6
      replace hsz2 := Aside0.mk hsz2
      clear hR6' j0 j1 l0 l1 k0 k1 k0' k1' k0'' k1''
      have ewk : IntKind.i64.wrap ((q : Int) + (m : Int)) = (r : Int) := i64q q m r hr.out hr2.out
      have hq0' := hq0.out
      have hqr2 := hqr'.out
      have hrV2 := hrV.out
      clear ew3
      go_region_held3 (fun w' => w'.cell? ⟨w.heap.size, 1, none⟩ = some (.int .i64 (m : Int)))
        (first | exact s3 | exact s2 | exact s1 | exact i1 | go_keep)
        (first | (go_at_call 13; refine (hAll.out _).mono ?_; rintro e w8 ⟨A8, c8, rfl, hr8, hR8, hF8⟩; have s1 := cell_far hF8 (fun e => hwg.out e) i1; have hr8' := Kd.R_reads' hr8; have hL8 : RB w8 w2.heap.size (fun _ => True) (.slice A L.length c2) L := Kd.R_mono (Kd.R_step (Kd.R_tight rfl (hLr.out _)) (fun i hi hlt => hF8.block i hlt (fun e => by have e' : i = a.g := e; have := Kd.R_base hL3.out i hi.symm; have := hsz2.out; omega))) (fun _ _ => trivial); have hL8' := Kd.R_reads' hL8; obtain ⟨i5, hi5, hs5⟩ := Option.map_eq_some_iff.1 size5; have hcut := cut_mid 36 5 .i64 .i64 Try.underlying36 hi5 1 hs5 A8 V.length c8 (q : Int) (r : Int) hq0.out hqr'.out hrV.out hr8'.2.1; have hCm := Kd.C_mid hr8'.2.2 hqr.out hr12.out hr8'.2.1; rw [hmid.out] at hCm; rw [Int.toNat_natCast, Int.toNat_natCast, hrq.out] at hcut; obtain ⟨A9, hA9⟩ : ∃ A9, A9 = (if c8 = q then A8 else A8.map (·.add (q * 1))) := ⟨_, rfl⟩; rw [← hA9] at hcut; have hCm' : Kd.C (Kd.int .u8) w8 A9 L.length L := (by rw [hA9]; exact hCm); have hBy := gunnyref01_Bytes.calls A c2 L A9 (c8 - q) L true w8 hL8'.2.2 hL8'.2.1 hCm' (by have := hr8'.2.1; have := hr12.out; have := hrq.out; omega) (bytes_same L); replace hBy := Aside0.mk hBy; replace hA9 := Aside0.mk hA9; replace hr8 := Aside0.mk hr8; replace hR8 := Aside0.mk hR8; replace hF8 := Aside0.mk hF8; clear hL8 hL8' hr8' hi5 hs5 hCm hCm') | (go_at_call 12; refine hBy.out.mono ?_; rintro e w9 ⟨rfl, hd9⟩; have s2 := cell_far (Far.of_below (S := fun _ => False) hd9.below) (fun h => h) s1; have hb9 := Aside0.mk hd9.below; clear hd9) | (go_at_call 8; refine (lives_calls _).mono ?_; rintro e w10 ⟨rfl, b10⟩; have s3 := cell_far (Far.of_below (S := fun _ => False) b10) (fun h => h) s2; replace b10 := Aside0.mk b10))
      go_wp2
      go_returns
      clear ewk
      have y2 := hW2.out.size
      have y3 := hF3.out.size
      have y4 := hb4.out.size
      have y5 := hb5.out.size
      have y7 := hb7.out.size
      have y6 := hF6.out.size
      have y8 := hF8.out.size
      have y9 := hb9.out.size
      have hag := hwg.out
      have hgx : w.heap.size ≤ a.g := by have := (hR2.out.own_lt a.g (.inl rfl)).1; omega
      have u3 : Below w.heap.size w w3 := hW2.out.trans (hF3.out.below y2 (fun k hk => by have e : k = a.g := hk; omega))
      have u6 : Below w.heap.size w w6 := (((u3.trans (Below_low hb4.out u3.size)).trans (Below_low hb5.out (by omega))).trans (Below_low hb7.out (by omega))).trans (hF6.out.below (by omega) (fun k hk => by have e : k = a.g := hk; omega))
      have u8 := ((Far.of_below u6 : Far (fun k => w.heap.size ≤ k) w w6).drewN _).trans (hF8.out) (fun k hk => .inl (by have e : k = a.g := hk; omega))
      have u8' := u8.below (Nat.le_refl _) (fun k hk => hk)
      exact ⟨rfl, (u8'.trans (Below_low hb9.out u8'.size)).trans (Below_low b10.out (Nat.le_trans u8'.size y9))⟩
    · have g4 : decide ((r : Int) > 12288) = true := decide_eq_true (by omega)
      have g5 : decide ((12288 : Int) < (r : Int)) = true := decide_eq_true (by omega)
      have g6 : decide (12288 < r) = true := decide_eq_true (by omega)
      rw [decide_eq_false (by omega)] at hth
      rw [hth, readL_no _ _ _ _ _ _ _ _ _ hth] at hZ
      replace hZ := Aside0.mk hZ
      replace hth := Aside0.mk hth
      clear hLR hM
      have ew := ew.out
      have ew2 := ew2.out
      have ew3 := ew3.out
      replace h1 := Aside0.mk h1
      replace hr2 := Aside0.mk hr2
      replace hq2 := Aside0.mk hq2
      replace hqr := Aside0.mk hqr
      replace hp2 := Aside0.mk hp2
      replace m1 := Aside0.mk m1
      replace m2 := Aside0.mk m2
      replace m3 := Aside0.mk m3
      clear g5 g6
      go_wp2_with (first | (go_at_call 10; refine hZ.out.mono ?_; rintro e w3 ⟨A, c2, rfl, hL, hR3, hF3⟩; have k0' := cell_far hF3 (fun e => hwg.out e) k0; have k1' := cell_far hF3 (fun e => hwg.out e) k1; clear hL; replace hR3 := Aside0.mk hR3; replace hF3 := Aside0.mk hF3) | (go_at_call 11; refine (hmay.out _).out.mono ?_; rintro e w4 ⟨rfl, hd4⟩; have hb4 := Aside0.mk hd4.below; have k0'' := cell_far (Far.of_below (S := fun _ => False) hd4.below) (fun h => h) k0'; have k1'' := cell_far (Far.of_below (S := fun _ => False) hd4.below) (fun h => h) k1'; clear hd4) | (go_at_call 8; refine (lives_calls _).mono ?_; rintro e w7 ⟨rfl, b7⟩; replace b7 := Aside0.mk b7))
      go_returns
      clear ew ew2 ew3
      have hz2 := hW2.out.size
      have z3 := hF3.out.size
      have z4 := hb4.out.size
      exact ⟨rfl, ((hW2.out.trans (hF3.out.below (by omega) (fun k hk => by have e : k = a.g := hk; omega))).trans (Below_low hb4.out (by omega))).trans (Below_low b7.out (by omega))⟩

theorem reads_walk (W : World) (a0 : Int) (w0 : (Lit.int .i64 a0).wf = true) (a1 : Int) (w1 : (Lit.int .i64 a1).wf = true) (xs : List Int) (hl : xs.length = 2) (hR : ∀ x ∈ xs, (Lit.int .i64 x).wf = true) :
    Calls Try.prog 4 #[.int .i64 a0, .int .i64 a1, .agg (xs.map (Value.int .i64)).toArray] W fun e w' => e = .returned (.bool true) ∧ Below W.heap.size W w' := by
  obtain ⟨x, y, rfl⟩ : ∃ x y, xs = [x, y] := by
    match xs, hl with
    | [x, y], _ => exact ⟨x, y, rfl⟩
  have h := hR x (by simp)
  have hb : -9223372036854775808 ≤ x ∧ x < 9223372036854775808 := by
    have := bounds_i64 h
    omega
  exact reads_law a0 a1 x y W hb.1 hb.2

end Go.Proofs.Ytejeehcmcadmcaa.Hand
