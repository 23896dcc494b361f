/- ZspageWrites, walked. -/
import Derived.Test.YtejeehcmcadmcaaL1
namespace Go.Proofs.Ytejeehcmcadmcaa.Hand
set_option linter.unusedVariables false
set_option linter.unusedSimpArgs false
open Go.RowKit Go.Proofs.Ytejeehcmcadmcaa.R Go.Proofs.YtejeehcmcadmcaaW.PrintWords Go.Proofs.YtejeehcmcadmcaaW.PrintLast Go.Proofs.YtejeehcmcadmcaaW.PrintMore

/-- A fresh row of bytes stays where blocks of S alone are written. -/
theorem RB_stay {w w' : World} {base : Nat} {v : Value} {xs : List Int} {S : Nat → Prop} (h : RB w base (fun _ => True) v xs) (f : Far S w w') (hS : ∀ i, S i → i < base) : RB w' base (fun _ => True) v xs :=
  Kd.R_mono (Kd.R_step (Kd.R_tight rfl h) (fun i hi hlt => f.block i hlt (fun e => by have := Kd.R_base h i hi.symm; have := hS i e; omega))) (fun _ _ => trivial)
/-- What is written, at once. -/
theorem writeB_R {B : List Int} (hB : B.length = 32768) (a0 a1 a2 : Int) (l : List Int) :
    view (writeB (ownR 4) B 2 0 1 a0 a1 a2 l) = (if thereB (ownR 4) 2 0 1 a0 a1 a2 (l.length : Int) then over (view B) (a0 * a1 + a2).toNat l else view B) ∧ seg (writeB (ownR 4) B 2 0 1 a0 a1 a2 l) 3 = seg B 3 ∧ (writeB (ownR 4) B 2 0 1 a0 a1 a2 l).length = 32768 := by
  unfold writeB
  cases hth : thereB (ownR 4) 2 0 1 a0 a1 a2 (l.length : Int) with
  | false => exact ⟨rfl, rfl, hB⟩
  | true =>
    have hm : mayB a0 a1 a2 (l.length : Int) = true := by
      unfold thereB at hth
      exact (Bool.and_eq_true_iff.1 hth).1
    have h' := of_decide_eq_true hm
    obtain ⟨s, rfl⟩ : ∃ s : Nat, a0 = (s : Int) := ⟨a0.toNat, by omega⟩
    obtain ⟨n, rfl⟩ : ∃ s : Nat, a1 = (s : Int) := ⟨a1.toNat, by omega⟩
    obtain ⟨f, rfl⟩ : ∃ s : Nat, a2 = (s : Int) := ⟨a2.toNat, by omega⟩
    rw [thereB_R s n f l.length hm] at hth
    have hd := of_decide_eq_true hth
    rw [if_pos rfl, if_pos rfl, show ((s : Int) * (n : Int) + (f : Int)).toNat = s * n + f by rw [← Int.natCast_mul]; omega]
    exact write_all hB (s * n + f) l (by omega) (by omega)
theorem Gd_fold {own F : List Int} {m f : Nat} (f0 f1 f2 : Int) : ∀ (ps : List S28) (s : List Int × List Int), Gd own F s.1 m f → isBytes s.2 → Gd own F (ps.foldl (stepW own f0 f1 f2) s).1 m f
  | [], s, h, _ => h
  | p :: ps, s, h, hb => by
    rw [List.foldl_cons]
    exact Gd_fold f0 f1 f2 ps _ (h.wr _ _ _ (hb.take _)) (hb.drop _)
theorem Gd_writeB {own F B : List Int} {m f : Nat} (f0 f1 f2 a0 a1 a2 : Int) (l : List Int) (h : Gd own F B m f) (hb : isBytes l) : Gd own F (writeB own B f0 f1 f2 a0 a1 a2 l) m f := by
  unfold writeB
  split
  · exact Gd_fold f0 f1 f2 _ (B, l) h hb
  · exact h
/-- What is told again. -/
theorem readL_write {B : List Int} (hB : B.length = 32768) (a0 a1 a2 : Int) (l : List Int) (hth : thereB (ownR 4) 2 0 1 a0 a1 a2 (l.length : Int) = true) : readL (ownR 4) (writeB (ownR 4) B 2 0 1 a0 a1 a2 l) 2 0 1 a0 a1 a2 (l.length : Int) = l := by
  obtain ⟨h1, _, h3⟩ := writeB_R hB a0 a1 a2 l
  have hm : mayB a0 a1 a2 (l.length : Int) = true := by
    unfold thereB at hth
    exact (Bool.and_eq_true_iff.1 hth).1
  have h' := of_decide_eq_true hm
  rw [hth, if_pos rfl] at h1
  obtain ⟨s, rfl⟩ : ∃ s : Nat, a0 = (s : Int) := ⟨a0.toNat, by omega⟩
  obtain ⟨n, rfl⟩ : ∃ s : Nat, a1 = (s : Int) := ⟨a1.toNat, by omega⟩
  obtain ⟨f, rfl⟩ : ∃ s : Nat, a2 = (s : Int) := ⟨a2.toNat, by omega⟩
  rw [thereB_R s n f l.length hm] at hth
  have hd := of_decide_eq_true hth
  rw [readL_R h3 s n f l.length hm hd, h1, show ((s : Int) * (n : Int) + (f : Int)).toNat = s * n + f by rw [← Int.natCast_mul]; omega]
  have hv := view_length hB
  apply List.ext_getElem?
  intro j
  rw [List.getElem?_take, List.getElem?_drop]
  by_cases hj : j < l.length
  · rw [if_pos hj, over_get _ _ _ _ (by omega), if_pos (by omega)]
    congr 1
    omega
  · rw [if_neg hj, List.getElem?_eq_none (by omega)]

set_option maxHeartbeats 16000000 in
set_option maxRecDepth 100000 in
theorem writes_law (a0 a1 a2 : Int) (Ab : Option Addr) (cb : Nat) (l : List Int) (w : World) (hC : Kd.C (Kd.int .u8) w Ab l.length l) (hcb : l.length ≤ cb) (hby : isBytes l) (b0 : -9223372036854775808 ≤ a2) (b1 : a2 < 9223372036854775808) :
    Calls Try.prog 5 #[.int .i64 a0, .agg #[.int .i64 a1, .int .i64 a2], .slice Ab l.length cb] w fun e w' => e = .returned (.bool true) ∧ Below w.heap.size w w' := by
  have hbx := blk_new w (.cells #[.int .i64 a1, .int .i64 a2] 22 (0, 0))
  have hb0 : Below w.heap.size w (w.alloc (.cells #[.int .i64 a1, .int .i64 a2] 22 (0, 0))) := (Below.refl _ _).alloc (Nat.le_refl _) _
  have hz0 : (w.alloc (.cells #[.int .i64 a1, .int .i64 a2] 22 (0, 0))).heap.size = w.heap.size + 1 := World.size_alloc _ _
  have k0 : (w.alloc (.cells #[.int .i64 a1, .int .i64 a2] 22 (0, 0))).cell? ⟨w.heap.size, 0, none⟩ = some (.int .i64 a1) := (blk_cell hbx 0).trans rfl
  have k1 : (w.alloc (.cells #[.int .i64 a1, .int .i64 a2] 22 (0, 0))).cell? ⟨w.heap.size, 1, none⟩ = some (.int .i64 a2) := (blk_cell hbx 1).trans rfl
  replace hbx := Aside0.mk hbx
  replace hb0 := Aside0.mk hb0
  replace hz0 := Aside0.mk hz0
  replace hC := Aside0.mk hC
  replace hby := Aside0.mk hby
  replace hcb := Aside0.mk hcb
  replace b0 := Aside0.mk b0
  replace b1 := Aside0.mk b1
  go_enter Try.func5, Try.ntmps5
  go_upto_region 1 with (fail)
  go_quiet (fail)
  have hbW := hb0.out.trans (Below_low (pw_below_drewN (Below.refl _ (w.alloc (.cells #[.int .i64 a1, .int .i64 a2] 22 (0, 0)))) nq) hb0.out.size)
  clear k0 k1 hbx
  generalize (w.alloc (.cells #[.int .i64 a1, .int .i64 a2] 22 (0, 0))).drewN nq = w1 at hbW ⊢
  clear hb0 hz0
  replace hbW := Aside0.mk hbW
  have hrow := row_calls w1
  replace hrow := Aside0.mk hrow
  go_upto_region 3 with (go_at_call 9; refine hrow.out.mono ?_; rintro e w2 ⟨a, t, nb, rfl, hR2, hD, hn, hnb, hb2⟩; replace hR2 := Aside0.mk hR2; replace hD := Aside0.mk hD; replace hn := Aside0.mk hn; replace hnb := Aside0.mk hnb; replace hb2 := Aside0.mk hb2)
  have hW2 := hbW.out.trans (Below_low hb2.out hbW.out.size)
  have hw1 := hbW.out.size
  by_cases hl : 5000 < l.length
  · have d1 : decide ((l.length : Int) > 5000) = true := decide_eq_true (by omega)
    have d2 : decide (5000 < (l.length : Int)) = true := decide_eq_true (by omega)
    have d3 : decide (5000 < l.length) = true := decide_eq_true hl
    replace hl := Aside0.mk hl
    replace hW2 := Aside0.mk hW2
    go_wp2_with (go_at_call 8; refine (lives_calls _).mono ?_; rintro e w7 ⟨rfl, b7⟩; replace b7 := Aside0.mk b7)
    go_returns
    exact ⟨rfl, hW2.out.trans (Below_low b7.out hW2.out.size)⟩
  have d1 : decide ((l.length : Int) > 5000) = false := decide_eq_false (by omega)
  have d2 : decide (5000 < (l.length : Int)) = false := decide_eq_false (by omega)
  have d3 : decide (5000 < l.length) = false := decide_eq_false hl
  have hg1 : nb ≠ a.g := fun e => by
    obtain ⟨q, hq⟩ := hR2.out.of
    have h1 := hq.blk
    rw [← e, hn.out] at h1
    cases h1
  have hg2 : nb ≠ a.b := fun e => by
    obtain ⟨q, hq⟩ := hR2.out.of
    obtain ⟨cs, h1⟩ := hq.b_typ
    rw [← e, hn.out] at h1
    cases h1
  have hge := (hR2.out.own_lt a.g (.inl rfl))
  have hbe := (hR2.out.own_lt a.b (.inr (.inl rfl)))
  have hBl := BR_length 4 (by omega)
  have hA1 := all_calls w1.heap.size a (ownR 4) (dn 8 4) t (BR 4) nb 3 [2, 0, 1] w2 hR2.out hD.out hn.out (by decide) hg1
  rw [allB_view] at hA1
  obtain ⟨B, hB⟩ : ∃ B, B = BR 4 := ⟨_, rfl⟩
  rw [← hB] at hA1 hBl hR2 hD
  obtain ⟨V, hV⟩ : ∃ V, V = view B := ⟨_, rfl⟩
  have hVl := view_length hBl
  rw [← hV] at hA1 hVl
  have hbyB : isBytes l := hby.out
  obtain ⟨ok, hok⟩ : ∃ ok, ok = thereB (ownR 4) 2 0 1 a0 a1 a2 (l.length : Int) := ⟨_, rfl⟩
  obtain ⟨B2, hB2⟩ : ∃ B2, B2 = writeB (ownR 4) B 2 0 1 a0 a1 a2 l := ⟨_, rfl⟩
  obtain ⟨O, hO⟩ : ∃ O, O = seg B 3 := ⟨_, rfl⟩
  obtain ⟨V2, hV2⟩ : ∃ V2, V2 = view B2 := ⟨_, rfl⟩
  obtain ⟨u1, u2, u3⟩ := writeB_R hBl a0 a1 a2 l
  rw [← hB2, ← hV2, ← hok] at u1
  rw [← hB2, ← hO] at u2
  rw [← hB2] at u3
  rw [← hV] at u1
  have hV2l : V2.length = 12288 := by rw [hV2]; exact view_length u3
  replace hA1 := Aside0.mk hA1
  replace hB := Aside0.mk hB
  replace hV := Aside0.mk hV
  replace hB2 := Aside0.mk hB2
  replace hO := Aside0.mk hO
  replace hV2 := Aside0.mk hV2
  replace hok := Aside0.mk hok
  replace u1 := Aside0.mk u1
  replace u2 := Aside0.mk u2
  replace u3 := Aside0.mk u3
  replace hVl := Aside0.mk hVl
  replace hV2l := Aside0.mk hV2l
  replace hBl := Aside0.mk hBl
  replace hW2 := Aside0.mk hW2
  replace hl := Aside0.mk hl
  replace hge := Aside0.mk hge
  replace hbe := Aside0.mk hbe
  replace hw1 := Aside0.mk hw1
  clear hrow hbyB
  go_upto_region 6 with (go_at_call 13; refine hA1.out.mono ?_; rintro e w3 ⟨A3, c3, rfl, hr3, hR3, hF3⟩; replace hr3 := Aside0.mk hr3; replace hR3 := Aside0.mk hR3; replace hF3 := Aside0.mk hF3)
  have hb4 := below_alloc (Below.refl w3.heap.size w3) (.cells #[.int .i64 3] 3 (0, 0))
  have hn4 := blk_new w3 (.cells #[.int .i64 3] 3 (0, 0))
  have hge3 := (hR3.out.own_lt a.g (.inl rfl))
  have hA4 := all_calls w1.heap.size a (ownR 4) (dn 8 4) t B w3.heap.size 1 [3] _ (hR3.out.below hb4) hD.out hn4 (by decide) (fun e => by omega)
  rw [allB_3, ← hO.out] at hA4
  replace hA4 := Aside0.mk hA4
  replace hb4 := Aside0.mk hb4
  replace hge3 := Aside0.mk hge3
  clear hn4
  go_upto_region 7 with (go_at_call 13; refine hA4.out.mono ?_; rintro e w5 ⟨A5, c5, rfl, hr5, hR5, hF5⟩; have hcv5 := Kd.C_string (P := Try.prog) (A := A5) (c := c5) Try.underlying36 Try.underlying5 Try.underlying9 (Kd.R_reads' hr5).2.2; replace hr5 := Aside0.mk hr5; replace hR5 := Aside0.mk hR5; replace hF5 := Aside0.mk hF5)
  have g25 : Far (fun i => i = a.g) w2 w5 := (hF3.out.alloc (.cells #[.int .i64 3] 3 (0, 0))).then_ hF5.out
  have hn5 := g25.blk hn.out (fun e => hg1 e)
  have gw5 : Below w.heap.size w w5 := hW2.out.trans (g25.below (Nat.le_trans hW2.out.size (Nat.le_refl _)) (fun i e => by have e' : i = a.g := e; have := hge.out; have := hw1.out; omega))
  have hWr := zwrite_any w1.heap.size a (ownR 4) (dn 8 4) t B a0 a1 a2 nb 3 2 0 1 Ab cb l w5 hR5.out hD.out hn5 b0.out b1.out hg1 hg2 (Kd.C_below hC.out gw5) hcb.out (fun ad e hp => by
    have h1 := Kd.C_lt (by rw [e] at hC; exact hC.out) hp (by decide)
    have := hw1.out
    omega) hby.out
  have hD2 := Gd_writeB 2 0 1 a0 a1 a2 l hD.out hby.out
  rw [← hok.out, ← hB2.out] at hWr
  rw [← hB2.out] at hD2
  replace hWr := Aside0.mk hWr
  replace hD2 := Aside0.mk hD2
  replace g25 := Aside0.mk g25
  replace hn5 := Aside0.mk hn5
  replace gw5 := Aside0.mk gw5
  go_upto_region 8 with (go_at_call 14; refine hWr.out.mono ?_; rintro e w6 ⟨rfl, hR6, hF6⟩; replace hR6 := Aside0.mk hR6; replace hF6 := Aside0.mk hF6)
  have hn6 := hF6.out.blk hn5.out (fun e => by rcases e with e | e; exact hg1 e; exact hg2 e)
  have hA7 := all_calls w1.heap.size a (ownR 4) (dn 8 4) t B2 nb 3 [2, 0, 1] w6 hR6.out hD2.out hn6 (by decide) hg1
  rw [allB_view, ← hV2.out] at hA7
  replace hA7 := Aside0.mk hA7
  replace hn6 := Aside0.mk hn6
  go_upto_region 9 with (go_at_call 13; refine hA7.out.mono ?_; rintro e w7 ⟨A7, c7, rfl, hr7, hR7, hF7⟩; replace hr7 := Aside0.mk hr7; replace hR7 := Aside0.mk hR7; replace hF7 := Aside0.mk hF7)
  have g37 : Far (fun i => i = a.g ∨ i = a.b) w3 w7 := ((((Far.refl (fun i => i = a.g) w3).alloc (.cells #[.int .i64 3] 3 (0, 0))).then_ hF5.out).mono (fun i h => .inl h)).then_ (hF6.out.then_ (hF7.out.mono (fun i h => .inl h)))
  have hVr := RB_stay hr3.out g37 (fun i e => by have := hge.out; have := hbe.out; rcases e with e | e <;> omega)
  have hn7 := hF7.out.blk hn6.out (fun e => hg1 e)
  have gw7 : Below w.heap.size w w7 := gw5.out.trans ((hF6.out.then_ (hF7.out.mono (fun i h => .inl h))).below gw5.out.size (fun i e => by have := hge.out; have := hbe.out; have := hw1.out; rcases e with e | e <;> omega))
  have hV2r := hr7.out
  replace hVr := Aside0.mk hVr
  replace hn7 := Aside0.mk hn7
  replace gw7 := Aside0.mk gw7
  have hs37 := Aside0.mk (show w2.heap.size ≤ w7.heap.size by have := g37.size; have := hF3.out.size; omega)
  have hs67 := Aside0.mk hF7.out.size
  have hs26 := Aside0.mk (show w2.heap.size ≤ w6.heap.size by have := g25.out.size; have := hF6.out.size; omega)
  have hmay := fun W => Aside0.mk (gunnyref16_May.calls a0 a1 a2 (l.length : Int) (mayB a0 a1 a2 (l.length : Int)) W (May_eq a0 a1 a2 (l.length : Int)))
  replace hmay := Aside0.mk hmay
  have hle : V2.length = V.length := hV2l.out.trans hVl.out.symm
  rw [hle] at hV2r
  have hV2r := Aside0.mk hV2r
  rw [hle]
  replace hle := Aside0.mk hle
  clear hr3 hR3 hF3 hb4 hge3 hA4 hA1 hr5 hR5 hF5 g25 hn5 gw5 hWr hR6 hF6 hA7 hr7 hF7 hn6 hW2 hn hR2 hb2 hbW g37
  -- TAIL
  cases hM : mayB a0 a1 a2 (l.length : Int) with
  | false =>
    rw [hM] at hmay
    obtain rfl : ok = false := by rw [hok.out]; unfold thereB; rw [hM, Bool.false_and]
    clear hM
    go_upto_region 10 with (go_at_call 11; refine (hmay.out _).out.mono ?_; rintro e w8 ⟨rfl, hd8⟩; have hb8 := Aside0.mk hd8.below; clear hd8)
    have hR8 := hR7.out.below hb8.out
    have hb9 := below_alloc (Below.refl w8.heap.size w8) (.cells #[.int .i64 3] 3 (0, 0))
    have hn9 := blk_new w8 (.cells #[.int .i64 3] 3 (0, 0))
    have hge8 := (hR8.own_lt a.g (.inl rfl))
    have hA9 := all_calls w1.heap.size a (ownR 4) (dn 8 4) t B2 w8.heap.size 1 [3] _ (hR8.below hb9) hD2.out hn9 (by decide) (fun e => by omega)
    rw [allB_3, u2.out] at hA9
    replace hA9 := Aside0.mk hA9
    replace hR8 := Aside0.mk hR8
    replace hb9 := Aside0.mk hb9
    replace hge8 := Aside0.mk hge8
    clear hn9
    go_upto_region 12 with (go_at_call 13; refine hA9.out.mono ?_; rintro e w9 ⟨A9, c9, rfl, hr9, hR9, hF9⟩; have hcv9 := Kd.C_string (P := Try.prog) (A := A9) (c := c9) Try.underlying36 Try.underlying5 Try.underlying9 (Kd.R_reads' hr9).2.2; clear hr9; replace hR9 := Aside0.mk hR9; replace hF9 := Aside0.mk hF9)
    have g79 : Far (fun i => i = a.g) w7 w9 := (((Far.of_below hb8.out).alloc (.cells #[.int .i64 3] 3 (0, 0))).then_ hF9.out)
    have gw9 : Below w.heap.size w w9 := gw7.out.trans (g79.below gw7.out.size (fun i e => by have e' : i = a.g := e; have := hge.out; have := hw1.out; omega))
    have hV9 := RB_stay hVr.out g79 (fun i e => by have e' : i = a.g := e; have := hge.out; omega)
    have hV29 := RB_stay hV2r.out g79 (fun i e => by have e' : i = a.g := e; have := hge.out; have := hs26.out; omega)
    have hn9 := g79.blk hn7.out (fun e => hg1 e)
    obtain ⟨g3, cap3, e3, _, _, _⟩ := Kd.R_form hV9 (by rw [hVl.out]; decide)
    injection e3 with e3 _ e3'
    subst e3
    subst e3'
    obtain ⟨g7, cap7, e7, _, _, _⟩ := Kd.R_form hV29 (by rw [hV2l.out]; decide)
    rw [hle.out] at e7
    injection e7 with e7 _ e7'
    subst e7
    subst e7'
    replace gw9 := Aside0.mk gw9
    replace hV9 := Aside0.mk hV9
    replace hV29 := Aside0.mk hV29
    replace hn9 := Aside0.mk hn9
    clear g79 hcv5 hcv9 hb8 hR8 hb9 hA9 hge8 hF9 hVr hV2r hn7 hR7 hmay
    go_wp2
    go_loopg [18] V.length (fun kq v18 w' => ∃ (i : Nat), v18 = .int .i64 (i : Int) ∧ Aside0 (i + kq = V.length) ∧ Aside0 (Below w9.heap.size w9 w'))
    case atStart => exact ⟨0, rfl, ⟨by omega⟩, ⟨Below.refl _ _⟩⟩
    case round =>
      obtain ⟨i, rfl, HK, HB⟩ := hrel
      cases gk with
      | zero =>
        obtain rfl : i = V.length := by have := HK.out; omega
        have f1 : decide ((V.length : Int) < (V.length : Int)) = false := decide_eq_false (by omega)
        have hRr := hR9.out.below HB.out
        have hZ := zread_any w1.heap.size a (ownR 4) (dn 8 4) t B2 a0 a1 a2 (l.length : Int) nb 3 2 0 1 wr hRr hD2.out (blk_below hn9.out HB.out) b0.out b1.out hg1
        rw [← hok.out] at hZ
        have gwr : Below w.heap.size w wr := gw9.out.trans (Below_low HB.out gw9.out.size)
        rw [readL_no _ _ _ _ _ _ _ _ _ hok.out.symm] at hZ
        replace hZ := Aside0.mk hZ
        replace gwr := Aside0.mk gwr
        go_wp2_with (first | (go_at_call 10; refine hZ.out.mono ?_; rintro e w10 ⟨A10, c10, rfl, hr10, hR10, hF10⟩; clear hr10; replace hR10 := Aside0.mk hR10; replace hF10 := Aside0.mk hF10) | (go_at_call 8; refine (lives_calls _).mono ?_; rintro e w11 ⟨rfl, b11⟩; replace b11 := Aside0.mk b11))
        go_returns
        have gw10 := gwr.out.trans (hF10.out.below gwr.out.size (fun i e => by have e' : i = a.g := e; have := hge.out; have := hw1.out; omega))
        exact ⟨rfl, gw10.trans (Below_low b11.out gw10.size)⟩
      | succ kk =>
        have hi : i < V.length := by have := HK.out; omega
        have hi2 : i < V2.length := by rw [hle.out]; exact hi
        have f1 : decide ((i : Int) < (V.length : Int)) = true := decide_eq_true (by omega)
        have f2 : decide (i < V.length) = true := decide_eq_true hi
        have i0 : (0 : Int) ≤ (i : Int) := by omega
        have i1 : (i : Int) < (V.length : Int) := by omega
        have hi3 : i < 12288 := by rw [← hVl.out]; exact hi
        have wi := Aside0.mk (w64s i (by omega))
        obtain ⟨x, hx⟩ : ∃ x, x = V2[i] := ⟨_, rfl⟩
        obtain ⟨y, hy⟩ : ∃ y, y = V[i] := ⟨_, rfl⟩
        obtain ⟨kx, _⟩ := Kd.R_celln (0 : Int) (Kd.R_below hV29.out HB.out) (i : Int) (by omega) (by omega)
        have ex : rdOf (0 : Int) V2 (i : Int) = x := by rw [hx]; unfold rdOf; simp [hi2]
        rw [ex, Int.toNat_natCast] at kx
        obtain ⟨ky, _⟩ := Kd.R_celln (0 : Int) (Kd.R_below hV9.out HB.out) (i : Int) (by omega) (by omega)
        have ey : rdOf (0 : Int) V (i : Int) = y := by rw [hy]; unfold rdOf; simp [hi]
        rw [ey, Int.toNat_natCast] at ky
        have hxy : (x != y) = false := by
          have e : V2 = V := u1.out
          rw [hx, hy]
          simp [e]
        clear hx hy ex ey
        go_upto_region 19 with (fail)
        go_quiet (fail)
        go_wp2
        go_roundg kk
        case measure => omega
        case rel => exact ⟨i + 1, by first | rw [wi.out] | rfl, ⟨by have := HK.out; omega⟩, by first | exact HB | exact ⟨pw_below_drewN HB.out _⟩⟩
  | true =>
    rw [hM] at hmay
    have hmm := of_decide_eq_true hM
    obtain ⟨s, rfl⟩ : ∃ s : Nat, a0 = (s : Int) := ⟨a0.toNat, by omega⟩
    obtain ⟨n, rfl⟩ : ∃ s : Nat, a1 = (s : Int) := ⟨a1.toNat, by omega⟩
    obtain ⟨f, rfl⟩ : ∃ s : Nat, a2 = (s : Int) := ⟨a2.toNat, by omega⟩
    have hth := thereB_R s n f l.length hM
    have hp2 : s * n ≤ 4096 * 255 := Nat.mul_le_mul (by omega) (by omega)
    obtain ⟨p, hp⟩ : ∃ p, p = s * n := ⟨_, rfl⟩
    have hsn : ((s : Int) * (n : Int) + (f : Int)).toNat = p + f := by rw [hp, ← Int.natCast_mul]; omega
    have ew := Aside0.mk (wmul s n p hp (by omega))
    rw [← hp] at hth hp2
    have m2 : f ≤ 4096 := by omega
    have m3 : l.length ≤ 4096 := by omega
    obtain ⟨q, hq⟩ : ∃ q, q = p + f := ⟨_, rfl⟩
    obtain ⟨r, hr⟩ : ∃ r, r = q + l.length := ⟨_, rfl⟩
    have ew2 : Aside0 (wrap64 ((p : Int) + (f : Int)) = (q : Int)) := ⟨by rw [hq]; exact w64p p f (by omega)⟩
    have ew3 : Aside0 (wrap64 ((q : Int) + (l.length : Int)) = (r : Int)) := ⟨by rw [hr]; exact w64p q l.length (by omega)⟩
    rw [← hq] at hth hsn
    rw [← hr, ← hok.out] at hth
    have hr2 : r ≤ 2000000 := by omega
    have hq2 : q ≤ 2000000 := by omega
    clear hM
    by_cases hc : l.length = 0 ∨ r ≤ 12288
    · obtain rfl : ok = true := by rw [hth]; exact decide_eq_true hc
      have hVo : V2 = over V q l := by
        have := u1.out
        rw [if_pos rfl, hsn] at this
        exact this
      replace hVo := Aside0.mk hVo
      by_cases h0 : l.length = 0
      · have hVV : V2 = V := by
          have := hVo.out
          rw [List.length_eq_zero_iff.1 h0, over_nil] at this
          exact this
        replace hVV := Aside0.mk hVV
        have g0 : decide ((l.length : Int) = 0) = true := decide_eq_true (by omega)
        have g0' : ((l.length : Int) == 0) = true := beq_iff_eq.mpr (by omega)
        replace h0 := Aside0.mk h0
        replace hc := Aside0.mk hc
        replace hmm := Aside0.mk hmm
        replace hth := Aside0.mk hth
        replace hp2 := Aside0.mk hp2
        replace hp := Aside0.mk hp
        replace m2 := Aside0.mk m2
        replace m3 := Aside0.mk m3
        replace hq := Aside0.mk hq
        replace hr := Aside0.mk hr
        replace hr2 := Aside0.mk hr2
        replace hq2 := Aside0.mk hq2
        replace hsn := Aside0.mk hsn
        have ew := ew.out
        have ew2 := ew2.out
        have ew3 := ew3.out
        go_upto_region 10 with (go_at_call 11; refine (hmay.out _).out.mono ?_; rintro e w8 ⟨rfl, hd8⟩; have hb8 := Aside0.mk hd8.below; clear hd8)
        have hR8 := hR7.out.below hb8.out
        have hb9 := below_alloc (Below.refl w8.heap.size w8) (.cells #[.int .i64 3] 3 (0, 0))
        have hn9 := blk_new w8 (.cells #[.int .i64 3] 3 (0, 0))
        have hge8 := (hR8.own_lt a.g (.inl rfl))
        have hA9 := all_calls w1.heap.size a (ownR 4) (dn 8 4) t B2 w8.heap.size 1 [3] _ (hR8.below hb9) hD2.out hn9 (by decide) (fun e => by omega)
        rw [allB_3, u2.out] at hA9
        replace hA9 := Aside0.mk hA9
        replace hR8 := Aside0.mk hR8
        replace hb9 := Aside0.mk hb9
        replace hge8 := Aside0.mk hge8
        clear hn9
        go_upto_region 12 with (go_at_call 13; refine hA9.out.mono ?_; rintro e w9 ⟨A9, c9, rfl, hr9, hR9, hF9⟩; have hcv9 := Kd.C_string (P := Try.prog) (A := A9) (c := c9) Try.underlying36 Try.underlying5 Try.underlying9 (Kd.R_reads' hr9).2.2; clear hr9; replace hR9 := Aside0.mk hR9; replace hF9 := Aside0.mk hF9)
        have g79 : Far (fun i => i = a.g) w7 w9 := (((Far.of_below hb8.out).alloc (.cells #[.int .i64 3] 3 (0, 0))).then_ hF9.out)
        have gw9 : Below w.heap.size w w9 := gw7.out.trans (g79.below gw7.out.size (fun i e => by have e' : i = a.g := e; have := hge.out; have := hw1.out; omega))
        have hV9 := RB_stay hVr.out g79 (fun i e => by have e' : i = a.g := e; have := hge.out; omega)
        have hV29 := RB_stay hV2r.out g79 (fun i e => by have e' : i = a.g := e; have := hge.out; have := hs26.out; omega)
        have hn9 := g79.blk hn7.out (fun e => hg1 e)
        obtain ⟨g3, cap3, e3, _, _, _⟩ := Kd.R_form hV9 (by rw [hVl.out]; decide)
        injection e3 with e3 _ e3'
        subst e3
        subst e3'
        obtain ⟨g7, cap7, e7, _, _, _⟩ := Kd.R_form hV29 (by rw [hV2l.out]; decide)
        rw [hle.out] at e7
        injection e7 with e7 _ e7'
        subst e7
        subst e7'
        replace gw9 := Aside0.mk gw9
        replace hV9 := Aside0.mk hV9
        replace hV29 := Aside0.mk hV29
        replace hn9 := Aside0.mk hn9
        clear g79 hcv5 hcv9 hb8 hR8 hb9 hA9 hge8 hF9 hVr hV2r hn7 hR7 hmay
        first | rw [ew2.out] | skip
        clear g0 g0'
        go_wp2
        go_loopg [18] V.length (fun kq v18 w' => ∃ (i : Nat), v18 = .int .i64 (i : Int) ∧ Aside0 (i + kq = V.length) ∧ Aside0 (Below w9.heap.size w9 w'))
        case atStart => exact ⟨0, rfl, ⟨by omega⟩, ⟨Below.refl _ _⟩⟩
        case round =>
          obtain ⟨i, rfl, HK, HB⟩ := hrel
          cases gk with
          | zero =>
            obtain rfl : i = V.length := by have := HK.out; omega
            have f1 : decide ((V.length : Int) < (V.length : Int)) = false := decide_eq_false (by omega)
            have hRr := hR9.out.below HB.out
            have hZ := zread_any w1.heap.size a (ownR 4) (dn 8 4) t B2 (s : Int) (n : Int) (f : Int) (l.length : Int) nb 3 2 0 1 wr hRr hD2.out (blk_below hn9.out HB.out) b0.out b1.out hg1
            rw [← hok.out] at hZ
            have gwr : Below w.heap.size w wr := gw9.out.trans (Below_low HB.out gw9.out.size)
            have hL := readL_write hBl.out _ _ _ _ hok.out.symm
            rw [← hB2.out] at hL
            rw [hL] at hZ
            have hCl := Kd.C_below hC.out gwr
            have hBy := fun (W : World) (A : Option Addr) (c : Nat) (h1 : RB W wr.heap.size (fun _ => True) (.slice A l.length c) l) (h2 : Far (fun i => i = a.g) wr W) => gunnyref01_Bytes.calls A c l Ab cb l true W (Kd.R_reads' h1).2.2 (Kd.R_reads' h1).2.1 (C_stay hCl h2 (fun ad e hp he => by
              have e' : ad.block = a.g := he
              have h3 := Kd.C_lt (by rw [e] at hC; exact hC.out) hp (by decide)
              have := hge.out
              have := hw1.out
              omega)) hcb.out (bytes_same l)
            replace hBy := Aside0.mk hBy
            replace hZ := Aside0.mk hZ
            replace gwr := Aside0.mk gwr
            clear hL hCl
            go_wp2_with (first | (go_at_call 10; refine hZ.out.mono ?_; rintro e w10 ⟨A10, c10, rfl, hr10, hR10, hF10⟩; have hBy' := Aside0.mk (hBy.out w10 A10 c10 hr10 hF10); clear hr10; replace hR10 := Aside0.mk hR10; replace hF10 := Aside0.mk hF10) | (go_at_call 12; refine hBy'.out.mono ?_; rintro e w12 ⟨rfl, hd12⟩; have hb12 := Aside0.mk hd12.below; clear hd12) | (go_at_call 8; refine (lives_calls _).mono ?_; rintro e w11 ⟨rfl, b11⟩; replace b11 := Aside0.mk b11))
            go_returns
            have gw10 := gwr.out.trans (hF10.out.below gwr.out.size (fun i e => by have e' : i = a.g := e; have := hge.out; have := hw1.out; omega))
            have gw12 := gw10.trans (Below_low hb12.out gw10.size)
            exact ⟨rfl, gw12.trans (Below_low b11.out gw12.size)⟩
          | succ kk =>
            have hi : i < V.length := by have := HK.out; omega
            have hi2 : i < V2.length := by rw [hle.out]; exact hi
            have f1 : decide ((i : Int) < (V.length : Int)) = true := decide_eq_true (by omega)
            have f2 : decide (i < V.length) = true := decide_eq_true hi
            have i0 : (0 : Int) ≤ (i : Int) := by omega
            have i1 : (i : Int) < (V.length : Int) := by omega
            have hi3 : i < 12288 := by rw [← hVl.out]; exact hi
            have wi := Aside0.mk (w64s i (by omega))
            obtain ⟨x, hx⟩ : ∃ x, x = V2[i] := ⟨_, rfl⟩
            obtain ⟨y, hy⟩ : ∃ y, y = V[i] := ⟨_, rfl⟩
            obtain ⟨kx, _⟩ := Kd.R_celln (0 : Int) (Kd.R_below hV29.out HB.out) (i : Int) (by omega) (by omega)
            have ex : rdOf (0 : Int) V2 (i : Int) = x := by rw [hx]; unfold rdOf; simp [hi2]
            rw [ex, Int.toNat_natCast] at kx
            obtain ⟨ky, _⟩ := Kd.R_celln (0 : Int) (Kd.R_below hV9.out HB.out) (i : Int) (by omega) (by omega)
            have ey : rdOf (0 : Int) V (i : Int) = y := by rw [hy]; unfold rdOf; simp [hi]
            rw [ey, Int.toNat_natCast] at ky
            have hxy : (x != y) = false := by
              have e : V2 = V := hVV.out
              rw [hx, hy]
              simp [e]
            clear hx hy ex ey
            by_cases c1 : q ≤ i
            · have d4 : decide ((q : Int) ≤ (i : Int)) = true := decide_eq_true (by omega)
              have d5 : decide ((i : Int) ≥ (q : Int)) = true := decide_eq_true (by omega)
              have d5' : decide (q ≤ i) = true := decide_eq_true c1
              obtain ⟨j, hj⟩ : ∃ j, j = i - q := ⟨_, rfl⟩
              have ej : wrap64 ((i : Int) - (q : Int)) = (j : Int) := by rw [hj]; exact w64d i q c1 (by omega)
              have d6 : decide ((j : Int) < (l.length : Int)) = false := decide_eq_false (by have := h0.out; omega)
              have d7 : decide (j < l.length) = false := decide_eq_false (by have := h0.out; omega)
              have d8 : decide ((i : Int) - (q : Int) < (l.length : Int)) = false := decide_eq_false (by have := h0.out; omega)
              replace hj := Aside0.mk hj
              clear c1
              go_upto_region 19 with (fail)
              go_quiet (fail)
              go_wp2
              go_roundg kk
              case measure => omega
              case rel => exact ⟨i + 1, by first | rw [wi.out] | rfl, ⟨by have := HK.out; omega⟩, by first | exact HB | exact ⟨pw_below_drewN HB.out _⟩⟩
            · have d4 : decide ((q : Int) ≤ (i : Int)) = false := decide_eq_false (by omega)
              have d5 : decide ((i : Int) ≥ (q : Int)) = false := decide_eq_false (by omega)
              have d5' : decide (q ≤ i) = false := decide_eq_false c1
              clear c1
              go_upto_region 19 with (fail)
              go_quiet (fail)
              go_wp2
              go_roundg kk
              case measure => omega
              case rel => exact ⟨i + 1, by first | rw [wi.out] | rfl, ⟨by have := HK.out; omega⟩, by first | exact HB | exact ⟨pw_below_drewN HB.out _⟩⟩
      · have h1 : r ≤ 12288 := by omega
        have hqr : q + l.length ≤ V.length := by rw [hVl.out]; omega
        replace hqr := Aside0.mk hqr
        have g0 : decide ((l.length : Int) = 0) = false := decide_eq_false (by omega)
        have g0' : ((l.length : Int) == 0) = false := beq_eq_false_iff_ne.mpr (by omega)
        have g4 : decide ((r : Int) ≤ 12288) = true := decide_eq_true (by omega)
        replace h0 := Aside0.mk h0
        replace h1 := Aside0.mk h1
        replace hc := Aside0.mk hc
        replace hmm := Aside0.mk hmm
        replace hth := Aside0.mk hth
        replace hp2 := Aside0.mk hp2
        replace hp := Aside0.mk hp
        replace m2 := Aside0.mk m2
        replace m3 := Aside0.mk m3
        replace hq := Aside0.mk hq
        replace hr := Aside0.mk hr
        replace hr2 := Aside0.mk hr2
        replace hq2 := Aside0.mk hq2
        replace hsn := Aside0.mk hsn
        have ew := ew.out
        have ew2 := ew2.out
        have ew3 := ew3.out
        go_upto_region 10 with (go_at_call 11; refine (hmay.out _).out.mono ?_; rintro e w8 ⟨rfl, hd8⟩; have hb8 := Aside0.mk hd8.below; clear hd8)
        have hR8 := hR7.out.below hb8.out
        have hb9 := below_alloc (Below.refl w8.heap.size w8) (.cells #[.int .i64 3] 3 (0, 0))
        have hn9 := blk_new w8 (.cells #[.int .i64 3] 3 (0, 0))
        have hge8 := (hR8.own_lt a.g (.inl rfl))
        have hA9 := all_calls w1.heap.size a (ownR 4) (dn 8 4) t B2 w8.heap.size 1 [3] _ (hR8.below hb9) hD2.out hn9 (by decide) (fun e => by omega)
        rw [allB_3, u2.out] at hA9
        replace hA9 := Aside0.mk hA9
        replace hR8 := Aside0.mk hR8
        replace hb9 := Aside0.mk hb9
        replace hge8 := Aside0.mk hge8
        clear hn9
        go_upto_region 12 with (go_at_call 13; refine hA9.out.mono ?_; rintro e w9 ⟨A9, c9, rfl, hr9, hR9, hF9⟩; have hcv9 := Kd.C_string (P := Try.prog) (A := A9) (c := c9) Try.underlying36 Try.underlying5 Try.underlying9 (Kd.R_reads' hr9).2.2; clear hr9; replace hR9 := Aside0.mk hR9; replace hF9 := Aside0.mk hF9)
        have g79 : Far (fun i => i = a.g) w7 w9 := (((Far.of_below hb8.out).alloc (.cells #[.int .i64 3] 3 (0, 0))).then_ hF9.out)
        have gw9 : Below w.heap.size w w9 := gw7.out.trans (g79.below gw7.out.size (fun i e => by have e' : i = a.g := e; have := hge.out; have := hw1.out; omega))
        have hV9 := RB_stay hVr.out g79 (fun i e => by have e' : i = a.g := e; have := hge.out; omega)
        have hV29 := RB_stay hV2r.out g79 (fun i e => by have e' : i = a.g := e; have := hge.out; have := hs26.out; omega)
        have hn9 := g79.blk hn7.out (fun e => hg1 e)
        obtain ⟨g3, cap3, e3, _, _, _⟩ := Kd.R_form hV9 (by rw [hVl.out]; decide)
        injection e3 with e3 _ e3'
        subst e3
        subst e3'
        obtain ⟨g7, cap7, e7, _, _, _⟩ := Kd.R_form hV29 (by rw [hV2l.out]; decide)
        rw [hle.out] at e7
        injection e7 with e7 _ e7'
        subst e7
        subst e7'
        replace gw9 := Aside0.mk gw9
        replace hV9 := Aside0.mk hV9
        replace hV29 := Aside0.mk hV29
        replace hn9 := Aside0.mk hn9
        clear g79 hcv5 hcv9 hb8 hR8 hb9 hA9 hge8 hF9 hVr hV2r hn7 hR7 hmay
        first | rw [ew2.out] | skip
        clear g0 g0'
        go_wp2
        go_loopg [18] V.length (fun kq v18 w' => ∃ (i : Nat), v18 = .int .i64 (i : Int) ∧ Aside0 (i + kq = V.length) ∧ Aside0 (Below w9.heap.size w9 w'))
        case atStart => exact ⟨0, rfl, ⟨by omega⟩, ⟨Below.refl _ _⟩⟩
        case round =>
          obtain ⟨i, rfl, HK, HB⟩ := hrel
          cases gk with
          | zero =>
            obtain rfl : i = V.length := by have := HK.out; omega
            have f1 : decide ((V.length : Int) < (V.length : Int)) = false := decide_eq_false (by omega)
            have hRr := hR9.out.below HB.out
            have hZ := zread_any w1.heap.size a (ownR 4) (dn 8 4) t B2 (s : Int) (n : Int) (f : Int) (l.length : Int) nb 3 2 0 1 wr hRr hD2.out (blk_below hn9.out HB.out) b0.out b1.out hg1
            rw [← hok.out] at hZ
            have gwr : Below w.heap.size w wr := gw9.out.trans (Below_low HB.out gw9.out.size)
            have hL := readL_write hBl.out _ _ _ _ hok.out.symm
            rw [← hB2.out] at hL
            rw [hL] at hZ
            have hCl := Kd.C_below hC.out gwr
            have hBy := fun (W : World) (A : Option Addr) (c : Nat) (h1 : RB W wr.heap.size (fun _ => True) (.slice A l.length c) l) (h2 : Far (fun i => i = a.g) wr W) => gunnyref01_Bytes.calls A c l Ab cb l true W (Kd.R_reads' h1).2.2 (Kd.R_reads' h1).2.1 (C_stay hCl h2 (fun ad e hp he => by
              have e' : ad.block = a.g := he
              have h3 := Kd.C_lt (by rw [e] at hC; exact hC.out) hp (by decide)
              have := hge.out
              have := hw1.out
              omega)) hcb.out (bytes_same l)
            replace hBy := Aside0.mk hBy
            replace hZ := Aside0.mk hZ
            replace gwr := Aside0.mk gwr
            clear hL hCl
            go_wp2_with (first | (go_at_call 10; refine hZ.out.mono ?_; rintro e w10 ⟨A10, c10, rfl, hr10, hR10, hF10⟩; have hBy' := Aside0.mk (hBy.out w10 A10 c10 hr10 hF10); clear hr10; replace hR10 := Aside0.mk hR10; replace hF10 := Aside0.mk hF10) | (go_at_call 12; refine hBy'.out.mono ?_; rintro e w12 ⟨rfl, hd12⟩; have hb12 := Aside0.mk hd12.below; clear hd12) | (go_at_call 8; refine (lives_calls _).mono ?_; rintro e w11 ⟨rfl, b11⟩; replace b11 := Aside0.mk b11))
            go_returns
            have gw10 := gwr.out.trans (hF10.out.below gwr.out.size (fun i e => by have e' : i = a.g := e; have := hge.out; have := hw1.out; omega))
            have gw12 := gw10.trans (Below_low hb12.out gw10.size)
            exact ⟨rfl, gw12.trans (Below_low b11.out gw12.size)⟩
          | succ kk =>
            have hi : i < V.length := by have := HK.out; omega
            have hi2 : i < V2.length := by rw [hle.out]; exact hi
            have f1 : decide ((i : Int) < (V.length : Int)) = true := decide_eq_true (by omega)
            have f2 : decide (i < V.length) = true := decide_eq_true hi
            have i0 : (0 : Int) ≤ (i : Int) := by omega
            have i1 : (i : Int) < (V.length : Int) := by omega
            have hi3 : i < 12288 := by rw [← hVl.out]; exact hi
            have wi := Aside0.mk (w64s i (by omega))
            obtain ⟨x, hx⟩ : ∃ x, x = V2[i] := ⟨_, rfl⟩
            obtain ⟨y, hy⟩ : ∃ y, y = V[i] := ⟨_, rfl⟩
            obtain ⟨kx, _⟩ := Kd.R_celln (0 : Int) (Kd.R_below hV29.out HB.out) (i : Int) (by omega) (by omega)
            have ex : rdOf (0 : Int) V2 (i : Int) = x := by rw [hx]; unfold rdOf; simp [hi2]
            rw [ex, Int.toNat_natCast] at kx
            obtain ⟨ky, _⟩ := Kd.R_celln (0 : Int) (Kd.R_below hV9.out HB.out) (i : Int) (by omega) (by omega)
            have ey : rdOf (0 : Int) V (i : Int) = y := by rw [hy]; unfold rdOf; simp [hi]
            rw [ey, Int.toNat_natCast] at ky
            have hov : V2[i]? = if q ≤ i ∧ i < q + l.length then l[i - q]? else V[i]? := by
              rw [hVo.out]
              exact over_get V q l i hqr.out
            by_cases c1 : q ≤ i
            · have d4 : decide ((q : Int) ≤ (i : Int)) = true := decide_eq_true (by omega)
              have d5 : decide ((i : Int) ≥ (q : Int)) = true := decide_eq_true (by omega)
              have d5' : decide (q ≤ i) = true := decide_eq_true c1
              obtain ⟨j, hj⟩ : ∃ j, j = i - q := ⟨_, rfl⟩
              have ej : wrap64 ((i : Int) - (q : Int)) = (j : Int) := by rw [hj]; exact w64d i q c1 (by omega)
              by_cases c2 : j < l.length
              · have d6 : decide ((j : Int) < (l.length : Int)) = true := decide_eq_true (by omega)
                have d7 : decide (j < l.length) = true := decide_eq_true c2
                rw [if_pos (by omega), ← hj, List.getElem?_eq_getElem c2, List.getElem?_eq_getElem hi2, ← hx] at hov
                injection hov with hov
                obtain ⟨adb, hAb, kb⟩ := Ci_at (Kd.C_below hC.out (gw9.out.trans (Below_low HB.out gw9.out.size))) j c2
                rw [← hov] at kb
                subst hAb
                have j0 : (0 : Int) ≤ (j : Int) := by omega
                have j1 : (j : Int) < (l.length : Int) := by omega
                have hxx : (x != x) = false := by simp
                replace hj := Aside0.mk hj
                clear hx hy ex ey hov c1 c2 ky
                go_upto_region 17 with (fail)
                go_quiet (fail)
                go_wp2
                go_roundg kk
                case measure => omega
                case rel => exact ⟨i + 1, by first | rw [wi.out] | rfl, ⟨by have := HK.out; omega⟩, by first | exact HB | exact ⟨pw_below_drewN HB.out _⟩⟩
              · have d6 : decide ((j : Int) < (l.length : Int)) = false := decide_eq_false (by omega)
                have d7 : decide (j < l.length) = false := decide_eq_false c2
                rw [if_neg (by omega), List.getElem?_eq_getElem hi2, List.getElem?_eq_getElem hi, ← hx, ← hy] at hov
                injection hov with hov
                have hxy : (x != y) = false := by rw [hov]; simp
                replace hj := Aside0.mk hj
                clear hx hy ex ey hov c1 c2
                go_upto_region 19 with (fail)
                go_quiet (fail)
                go_wp2
                go_roundg kk
                case measure => omega
                case rel => exact ⟨i + 1, by first | rw [wi.out] | rfl, ⟨by have := HK.out; omega⟩, by first | exact HB | exact ⟨pw_below_drewN HB.out _⟩⟩
            · have d4 : decide ((q : Int) ≤ (i : Int)) = false := decide_eq_false (by omega)
              have d5 : decide ((i : Int) ≥ (q : Int)) = false := decide_eq_false (by omega)
              have d5' : decide (q ≤ i) = false := decide_eq_false c1
              rw [if_neg (by omega), List.getElem?_eq_getElem hi2, List.getElem?_eq_getElem hi, ← hx, ← hy] at hov
              injection hov with hov
              have hxy : (x != y) = false := by rw [hov]; simp
              clear hx hy ex ey hov c1
              go_upto_region 19 with (fail)
              go_quiet (fail)
              go_wp2
              go_roundg kk
              case measure => omega
              case rel => exact ⟨i + 1, by first | rw [wi.out] | rfl, ⟨by have := HK.out; omega⟩, by first | exact HB | exact ⟨pw_below_drewN HB.out _⟩⟩
    · have h0 : ¬ l.length = 0 := fun h => hc (.inl h)
      have h1 : ¬ r ≤ 12288 := fun h => hc (.inr h)
      obtain rfl : ok = false := by rw [hth]; exact decide_eq_false hc
      have g0 : decide ((l.length : Int) = 0) = false := decide_eq_false (by omega)
      have g0' : ((l.length : Int) == 0) = false := beq_eq_false_iff_ne.mpr (by omega)
      have g4 : decide ((r : Int) ≤ 12288) = false := decide_eq_false (by omega)
      replace h0 := Aside0.mk h0
      replace h1 := Aside0.mk h1
      replace hc := Aside0.mk hc
      replace hmm := Aside0.mk hmm
      replace hth := Aside0.mk hth
      replace hp2 := Aside0.mk hp2
      replace hp := Aside0.mk hp
      replace m2 := Aside0.mk m2
      replace m3 := Aside0.mk m3
      replace hq := Aside0.mk hq
      replace hr := Aside0.mk hr
      replace hr2 := Aside0.mk hr2
      replace hq2 := Aside0.mk hq2
      replace hsn := Aside0.mk hsn
      have ew := ew.out
      have ew2 := ew2.out
      have ew3 := ew3.out
      go_upto_region 10 with (go_at_call 11; refine (hmay.out _).out.mono ?_; rintro e w8 ⟨rfl, hd8⟩; have hb8 := Aside0.mk hd8.below; clear hd8)
      have hR8 := hR7.out.below hb8.out
      have hb9 := below_alloc (Below.refl w8.heap.size w8) (.cells #[.int .i64 3] 3 (0, 0))
      have hn9 := blk_new w8 (.cells #[.int .i64 3] 3 (0, 0))
      have hge8 := (hR8.own_lt a.g (.inl rfl))
      have hA9 := all_calls w1.heap.size a (ownR 4) (dn 8 4) t B2 w8.heap.size 1 [3] _ (hR8.below hb9) hD2.out hn9 (by decide) (fun e => by omega)
      rw [allB_3, u2.out] at hA9
      replace hA9 := Aside0.mk hA9
      replace hR8 := Aside0.mk hR8
      replace hb9 := Aside0.mk hb9
      replace hge8 := Aside0.mk hge8
      clear hn9
      go_upto_region 12 with (go_at_call 13; refine hA9.out.mono ?_; rintro e w9 ⟨A9, c9, rfl, hr9, hR9, hF9⟩; have hcv9 := Kd.C_string (P := Try.prog) (A := A9) (c := c9) Try.underlying36 Try.underlying5 Try.underlying9 (Kd.R_reads' hr9).2.2; clear hr9; replace hR9 := Aside0.mk hR9; replace hF9 := Aside0.mk hF9)
      have g79 : Far (fun i => i = a.g) w7 w9 := (((Far.of_below hb8.out).alloc (.cells #[.int .i64 3] 3 (0, 0))).then_ hF9.out)
      have gw9 : Below w.heap.size w w9 := gw7.out.trans (g79.below gw7.out.size (fun i e => by have e' : i = a.g := e; have := hge.out; have := hw1.out; omega))
      have hV9 := RB_stay hVr.out g79 (fun i e => by have e' : i = a.g := e; have := hge.out; omega)
      have hV29 := RB_stay hV2r.out g79 (fun i e => by have e' : i = a.g := e; have := hge.out; have := hs26.out; omega)
      have hn9 := g79.blk hn7.out (fun e => hg1 e)
      obtain ⟨g3, cap3, e3, _, _, _⟩ := Kd.R_form hV9 (by rw [hVl.out]; decide)
      injection e3 with e3 _ e3'
      subst e3
      subst e3'
      obtain ⟨g7, cap7, e7, _, _, _⟩ := Kd.R_form hV29 (by rw [hV2l.out]; decide)
      rw [hle.out] at e7
      injection e7 with e7 _ e7'
      subst e7
      subst e7'
      replace gw9 := Aside0.mk gw9
      replace hV9 := Aside0.mk hV9
      replace hV29 := Aside0.mk hV29
      replace hn9 := Aside0.mk hn9
      clear g79 hcv5 hcv9 hb8 hR8 hb9 hA9 hge8 hF9 hVr hV2r hn7 hR7 hmay
      go_wp2
      go_loopg [18] V.length (fun kq v18 w' => ∃ (i : Nat), v18 = .int .i64 (i : Int) ∧ Aside0 (i + kq = V.length) ∧ Aside0 (Below w9.heap.size w9 w'))
      case atStart => exact ⟨0, rfl, ⟨by omega⟩, ⟨Below.refl _ _⟩⟩
      case round =>
        obtain ⟨i, rfl, HK, HB⟩ := hrel
        cases gk with
        | zero =>
          obtain rfl : i = V.length := by have := HK.out; omega
          have f1 : decide ((V.length : Int) < (V.length : Int)) = false := decide_eq_false (by omega)
          have hRr := hR9.out.below HB.out
          have hZ := zread_any w1.heap.size a (ownR 4) (dn 8 4) t B2 (s : Int) (n : Int) (f : Int) (l.length : Int) nb 3 2 0 1 wr hRr hD2.out (blk_below hn9.out HB.out) b0.out b1.out hg1
          rw [← hok.out] at hZ
          have gwr : Below w.heap.size w wr := gw9.out.trans (Below_low HB.out gw9.out.size)
          rw [readL_no _ _ _ _ _ _ _ _ _ hok.out.symm] at hZ
          replace hZ := Aside0.mk hZ
          replace gwr := Aside0.mk gwr
          go_wp2_with (first | (go_at_call 10; refine hZ.out.mono ?_; rintro e w10 ⟨A10, c10, rfl, hr10, hR10, hF10⟩; clear hr10; replace hR10 := Aside0.mk hR10; replace hF10 := Aside0.mk hF10) | (go_at_call 8; refine (lives_calls _).mono ?_; rintro e w11 ⟨rfl, b11⟩; replace b11 := Aside0.mk b11))
          go_returns
          have gw10 := gwr.out.trans (hF10.out.below gwr.out.size (fun i e => by have e' : i = a.g := e; have := hge.out; have := hw1.out; omega))
          exact ⟨rfl, gw10.trans (Below_low b11.out gw10.size)⟩
        | succ kk =>
          have hi : i < V.length := by have := HK.out; omega
          have hi2 : i < V2.length := by rw [hle.out]; exact hi
          have f1 : decide ((i : Int) < (V.length : Int)) = true := decide_eq_true (by omega)
          have f2 : decide (i < V.length) = true := decide_eq_true hi
          have i0 : (0 : Int) ≤ (i : Int) := by omega
          have i1 : (i : Int) < (V.length : Int) := by omega
          have hi3 : i < 12288 := by rw [← hVl.out]; exact hi
          have wi := Aside0.mk (w64s i (by omega))
          obtain ⟨x, hx⟩ : ∃ x, x = V2[i] := ⟨_, rfl⟩
          obtain ⟨y, hy⟩ : ∃ y, y = V[i] := ⟨_, rfl⟩
          obtain ⟨kx, _⟩ := Kd.R_celln (0 : Int) (Kd.R_below hV29.out HB.out) (i : Int) (by omega) (by omega)
          have ex : rdOf (0 : Int) V2 (i : Int) = x := by rw [hx]; unfold rdOf; simp [hi2]
          rw [ex, Int.toNat_natCast] at kx
          obtain ⟨ky, _⟩ := Kd.R_celln (0 : Int) (Kd.R_below hV9.out HB.out) (i : Int) (by omega) (by omega)
          have ey : rdOf (0 : Int) V (i : Int) = y := by rw [hy]; unfold rdOf; simp [hi]
          rw [ey, Int.toNat_natCast] at ky
          have hxy : (x != y) = false := by
            have e : V2 = V := u1.out
            rw [hx, hy]
            simp [e]
          clear hx hy ex ey
          go_upto_region 19 with (fail)
          go_quiet (fail)
          go_wp2
          go_roundg kk
          case measure => omega
          case rel => exact ⟨i + 1, by first | rw [wi.out] | rfl, ⟨by have := HK.out; omega⟩, by first | exact HB | exact ⟨pw_below_drewN HB.out _⟩⟩

theorem writes_walk (W : World) (a0 : Int) (w0 : (Lit.int .i64 a0).wf = true) (xs : List Int) (hl : xs.length = 2) (hR : ∀ x ∈ xs, (Lit.int .i64 x).wf = true) (A : Option Addr) (c : Nat) (l : List Int) (hC : Kd.C (Kd.int .u8) W A l.length l) (hc : l.length ≤ c) (hm : l.length ≤ maxLen) (hb : ∀ x ∈ l, (Lit.int .u8 x).wf = true) :
    Calls Try.prog 5 #[.int .i64 a0, .agg (xs.map (Value.int .i64)).toArray, .slice A l.length c] W fun e w' => e = .returned (.bool true) ∧ Below W.heap.size W w' := by
  obtain ⟨x, y, rfl⟩ : ∃ x y, xs = [x, y] := by
    match xs, hl with
    | [x, y], _ => exact ⟨x, y, rfl⟩
  have h := hR y (by simp)
  have hb' : -9223372036854775808 ≤ y ∧ y < 9223372036854775808 := by
    have := bounds_i64 h
    omega
  exact writes_law a0 x y A c l W hC hc (fun z hz => by have := bounds_u8 (hb z hz); omega) hb'.1 hb'.2

end Go.Proofs.Ytejeehcmcadmcaa.Hand
