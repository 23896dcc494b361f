/- ModelKeeps: walked (written by genF1.py). -/
import Derived.Test.YtgcgnpinhlmmjaaE4
namespace Go.Proofs.Ytgcgnpinhlmmjaa.Hand
set_option linter.unusedVariables false
set_option linter.unusedSimpArgs false
open Go.RowKit Go.Maps Go.Proofs.Ytgcgnpinhlmmjaa.R Go.Proofs.Ytgcgnpinhlmmjaa.Va Go.Proofs.YtgcgnpinhlmmjaaW.PrintWords Go.Proofs.YtgcgnpinhlmmjaaW.PrintLast Go.Proofs.YtgcgnpinhlmmjaaW.PrintMore

set_option maxHeartbeats 64000000 in
set_option maxRecDepth 100000 in
theorem keeps_law (ls : List S25) (A : Option Addr) (c : Nat) (o : S25) (A4 : Option Addr) (c4 : Nat) (W : World) (hC : Kd.C k25 W A ls.length ls) (hc : ls.length ≤ c) (hC4 : Kd.C (Kd.int .u8) W A4 o.f4.length o.f4) (hc4 : o.f4.length ≤ c4) (hwf : ∀ x ∈ ls, okO x) (ho : okO o) :
    Calls Try.prog 4 #[.slice A ls.length c, .agg #[.int .i64 o.f0, .int .i64 o.f1, .int .i64 o.f2, .int .u64 o.f3, .slice A4 o.f4.length c4]] W fun e w' => e = .returned (.bool true) ∧ Below W.heap.size W w' := by
  have hb1 := below_alloc (Below.refl _ W) (.cells #[.int .i64 o.f0, .int .i64 o.f1, .int .i64 o.f2, .int .u64 o.f3, .slice A4 o.f4.length c4] 25 (0, 0))
  have q1 := blk_new W (.cells #[.int .i64 o.f0, .int .i64 o.f1, .int .i64 o.f2, .int .u64 o.f3, .slice A4 o.f4.length c4] 25 (0, 0))
  have hF0 := Kd.F_below (Kd.C_F heap25 hC) hb1
  have hD0 := Kd.F_below (Kd.C_F (Kd.heap_int _) hC4) hb1
  obtain ⟨g1, hg1, hG1⟩ := great_calls ls A c (W.alloc (.cells #[.int .i64 o.f0, .int .i64 o.f1, .int .i64 o.f2, .int .u64 o.f3, .slice A4 o.f4.length c4] 25 (0, 0))) (Kd.C_below hC hb1) hc
  replace hb1 := Aside0.mk hb1
  replace hc := Aside0.mk hc
  replace hc4 := Aside0.mk hc4
  replace hwf := Aside0.mk hwf
  replace ho := Aside0.mk ho
  replace hG1 := Aside0.mk hG1
  clear hC hC4
  go_enter Try.func4, Try.ntmps4
  go_upto_region 1 with fail
  generalize W.alloc (.cells #[.int .i64 o.f0, .int .i64 o.f1, .int .i64 o.f2, .int .u64 o.f3, .slice A4 o.f4.length c4] 25 (0, 0)) = w1 at *
  cases g1 with
  | true =>
    clear hg1 hF0 hD0 q1
    go_wp2_with (first | (go_at_call 12; refine hG1.out.mono ?_; rintro e w2 ⟨rfl, hd⟩; replace hd := Aside0.mk hd.below) | (go_at_call 7; refine (lives_calls _).mono ?_; rintro e w9 ⟨rfl, hb9⟩; replace hb9 := Aside0.mk hb9))
    go_returns
    exact ⟨rfl, hb1.out.trans (Below_low (below_step hd.out hb9.out) hb1.out.size)⟩
  | false =>
    have hl150 := Aside0.mk (hg1 rfl)
    obtain ⟨g2, hge, _⟩ := great_some [o]
    have hG2 := Aside0.mk (fun (w2 : World) (hw2 : Below w1.heap.size w1 w2) => gunnylaw37_Great.calls 2000 (some ⟨w2.heap.size, 0, none⟩) 1 [o] none 0 [] g2 (w2.alloc (.cells (V25 o A4 c4) 25 (0, 0))) (oneC (blk_new w2 _) (Kd.F_now (Kd.F_below (Kd.F_below hD0 hw2) (below_alloc (Below.refl _ w2) _))) hc4.out) (Nat.le_refl _) (Kd.C_nil _ _) (Nat.le_refl _) hge)
    clear hge
    have hbx := Aside0.mk (fun (w2 : World) (hw2 : Below w1.heap.size w1 w2) => (⟨(blk_cell (blk_below q1 hw2) 0).trans rfl, (blk_cell (blk_below q1 hw2) 1).trans rfl, (blk_cell (blk_below q1 hw2) 2).trans rfl, (blk_cell (blk_below q1 hw2) 3).trans rfl, (blk_cell (blk_below q1 hw2) 4).trans rfl⟩ : w2.cell? ⟨W.heap.size, 0, none⟩ = some (.int .i64 o.f0) ∧ w2.cell? ⟨W.heap.size, 1, none⟩ = some (.int .i64 o.f1) ∧ w2.cell? ⟨W.heap.size, 2, none⟩ = some (.int .i64 o.f2) ∧ w2.cell? ⟨W.heap.size, 3, none⟩ = some (.int .u64 o.f3) ∧ w2.cell? ⟨W.heap.size, 4, none⟩ = some (.slice A4 o.f4.length c4)))
    replace hF0 := Aside0.mk hF0
    replace hD0 := Aside0.mk hD0
    have hobl := Aside0.mk (blk_lt q1)
    clear q1 hg1
    unfold V25 at hG2
    cases g2 with
    | true =>
      go_wp2_with (first
        | (go_at_call 12; refine (hG2.out _ hd.out).mono ?_; rintro e w3 ⟨rfl, hd3⟩; replace hd3 := Aside0.mk (below_step hd.out (below_step (below_alloc (Below.refl _ _) _) hd3.below)))
        | (go_at_call 12; refine hG1.out.mono ?_; rintro e w2 ⟨rfl, hd⟩; replace hd := Aside0.mk hd.below; obtain ⟨x0, x1, x2, x3, x4⟩ := hbx.out _ hd.out)
        | (go_at_call 7; refine (lives_calls _).mono ?_; rintro e w9 ⟨rfl, hb9⟩; replace hb9 := Aside0.mk hb9))
      go_returns
      exact ⟨rfl, hb1.out.trans (Below_low (below_step hd3.out hb9.out) hb1.out.size)⟩
    | false =>
      go_upto_region 3 with (first
        | (go_at_call 12; refine (hG2.out _ hd.out).mono ?_; rintro e w3 ⟨rfl, hd3⟩; replace hd3 := Aside0.mk (below_step hd.out (below_step (below_alloc (Below.refl _ _) _) hd3.below)))
        | (go_at_call 12; refine hG1.out.mono ?_; rintro e w2 ⟨rfl, hd⟩; replace hd := Aside0.mk hd.below; obtain ⟨x0, x1, x2, x3, x4⟩ := hbx.out _ hd.out))
      clear x0 x1 x2 x3 x4 hd hG1 hG2
      have hNew := Aside0.mk (New_go w3)
      have h0lt : ∀ k, k < W.heap.size → k < w3.heap.size := fun k hk => by have := hb1.out.size; have := hd3.out.size; omega
      go_upto_region 4 with (go_at_call 13; refine hNew.out.mono ?_; rintro e w4 ⟨rfl, hM4, hb4⟩; replace hM4 := Aside0.mk hM4; replace hb4 := Aside0.mk hb4)
      clear hNew
      obtain ⟨bb, hbb⟩ : ∃ b, b = w3.heap.size + 1 := ⟨_, rfl⟩
      obtain ⟨mb, hmb⟩ : ∃ b, b = w3.heap.size := ⟨_, rfl⟩
      have hM4' := hM4.out
      rw [← hbb] at hM4' ⊢
      rw [show ME w4 w3.heap.size bb w3.heap.size 0 [] (fun _ => (0, 0)) = ME w4 w3.heap.size bb mb 0 [] (fun _ => (0, 0)) by rw [hmb]] at hM4'
      have hX4 := Aside0.mk (below_step hd3.out hb4.out)
      have hdis : ∀ k, k < w3.heap.size → ¬ Mown mb [] (fun _ => (0, 0)) k := fun k hk hm => by
        have := (hM4'.lt k (.inr hm)).1
        omega
      have hDo := Aside0.mk (Does_go ls hwf.out (by have := hl150.out; omega) A c w4 hM4' (by omega) (Kd.F_below (Kd.F_below hF0.out hd3.out) hb4.out) (fun k hk => hdis k (h0lt k hk)))
      clear hbb hmb hM4 hdis
      have hb34 := Aside0.mk (fun (w5 : World) (f : Far (Mown mb [] (fun _ => (0, 0))) w4 w5) => hM4'.far f)
      clear hM4'
      rw [Nat.zero_add] at hDo
      generalize hL1 : (runL [] ls).1 = L1 at *
      have hL1l := Aside0.mk (show L1.length ≤ 150 by rw [← hL1]; have := runL_len ls []; have := hl150.out; simp at *; omega)
      generalize (runL [] ls).2 = r1 at *
      clear hL1
      go_upto_region 5 with (go_at_call 14; refine hDo.out.mono ?_; rintro e w5 ⟨A5, c5, B5, rfl, h5, i5, f5, r5⟩; replace h5 := Aside0.mk h5; replace f5 := Aside0.mk (hb4.out.trans (hb34.out _ f5)); clear i5 r5)
      clear hb34 hDo hb4
      have hPg := Aside0.mk (Pages_go w5 h5.out (by have := hl150.out; omega) (by have := hL1l.out; omega))
      go_upto_region 6 with (go_at_call 15; refine hPg.out.mono ?_; rintro e w6 ⟨A6, c6, rfl, R6, b6⟩; replace R6 := Aside0.mk R6; replace b6 := Aside0.mk b6)
      clear hPg
      have h6 := Aside0.mk (h5.out.below b6.out)
      have hX6 := Aside0.mk (below_step hd3.out (below_step f5.out b6.out))
      have F6 := Aside0.mk (Kd.R_F (Kd.R_mono (ok' := fun k => w5.heap.size ≤ k ∧ k < w6.heap.size) (Kd.R_bound R6.out) (fun k hk => ⟨hk.2.1, hk.2.2.1⟩)))
      have hc6 := Aside0.mk (Kd.R_reads' R6.out).2.1
      obtain ⟨x0, x1, x2, x3, x4⟩ := hbx.out _ hX6.out
      have b7 := below_alloc (Below.refl _ w6) (.cells (V25 o A4 c4) 25 (0, 0))
      have h7 := h6.out.below b7
      have hF7 := oneF (blk_new w6 (.cells (V25 o A4 c4) 25 (0, 0))) (Kd.F_below (Kd.F_below hD0.out hX6.out) b7) hc4.out
      have hltm := h6.out.lt
      have hDo := Aside0.mk (Does_go [o] (fun x hx => by rw [List.mem_singleton.1 hx]; exact ho.out) (by simp) (some ⟨w6.heap.size, 0, none⟩) 1 _ h7 (by have := hl150.out; omega) hF7 (fun k hk hm => by
        have h1 := hltm k (.inr hm)
        rcases hk with e | e
        · omega
        · have := h0lt k e
          omega))
      clear hltm
      unfold V25 at hDo b7 h7 hF7
      replace b7 := Aside0.mk b7
      replace h7 := Aside0.mk h7
      have hf7 := Aside0.mk (fun (w' : World) (f : Far (Mown mb L1 B5) _ w') => h7.out.far f)
      clear hF7
      go_upto_region 7 with (go_at_call 14; refine hDo.out.mono ?_; rintro e w8 ⟨A8, c8, B8, rfl, h8, i8, f8, r8⟩; replace h8 := Aside0.mk h8; replace f8 := Aside0.mk f8; replace i8 := Aside0.mk i8; replace r8 := Aside0.mk r8)
      clear hDo x0 x1 x2 x3 x4
      have hL2l := doesL_length L1 o
      have e8 : (runL L1 [o]).2 = [ansOf L1 o] := rfl
      have e8' : (runL L1 [o]).1 = (doesL L1 o).1 := rfl
      rw [e8'] at h8 i8
      rw [e8', e8] at r8
      rw [e8]
      clear e8 e8'
      have hX8 := Aside0.mk ((f5.out.trans (Below_low (below_step b6.out b7.out) f5.out.size)).trans (hf7.out _ f8.out))
      have F8 := Kd.F_step (Kd.F_below F6.out b7.out) (fun k hk _ => f8.out.block k (by have := hk.1; have := b6.out.size; have := b7.out.size; have := hk.2; omega) (fun hm => by have := (h5.out.lt k (.inr hm)).2; have := hk.1; omega))
      have hPg := Aside0.mk (Pages_go w8 h8.out (by have := hl150.out; simp; omega) (by have := hL1l.out; omega))
      obtain ⟨g8, eg⟩ := R_head r8.out (by simp)
      subst eg
      replace F8 := Aside0.mk F8
      replace hL2l := Aside0.mk hL2l
      obtain ⟨L2, hL2⟩ : ∃ l, l = (doesL L1 o).1 := ⟨_, rfl⟩
      rw [← hL2] at h8 i8 r8 hPg hL2l
      replace hL2 := Aside0.mk hL2
      go_upto_region 8 with (go_at_call 15; refine hPg.out.mono ?_; rintro e w9 ⟨A9, c9, rfl, R9, b9⟩; replace R9 := Aside0.mk R9; replace b9 := Aside0.mk b9)
      clear hPg
      have h9 := Aside0.mk (h8.out.below b9.out)
      have hX9 := Aside0.mk (hX8.out.trans (Below_low b9.out hX8.out.size))
      have hY9 := Aside0.mk (below_step hd3.out hX9.out)
      have F9 := Aside0.mk (Kd.F_below F8.out b9.out)
      have hc9 := Aside0.mk (Kd.R_reads' R9.out).2.1
      have hC9 := Aside0.mk (Kd.R_reads' R9.out).2.2
      obtain ⟨A2a, c2a, y0, y1, y2, yl, y3⟩ := ans_at (Kd.C_below (Kd.R_reads' r8.out).2.2 b9.out) 0 (by simp)
      replace y0 : w9.cell? ⟨g8, 0, none⟩ = some (.int .i64 (doesL L1 o).2.1) := y0
      have hc8 := (Kd.R_reads' r8.out).2.1
      simp only [List.length_singleton] at hc8
      clear y1 y2 yl y3 A2a c2a
      obtain ⟨x0, x1, x2, x3, x4⟩ := hbx.out _ hY9.out
      have hWX := Aside0.mk (hb1.out.trans (Below_low hY9.out hb1.out.size))
      obtain ⟨er, her⟩ : ∃ e, e = (doesL L1 o).2.1 := ⟨_, rfl⟩
      rw [← her] at y0
      replace her := Aside0.mk her
      obtain ⟨was, hwas⟩ : ∃ p, p = L1.map pageOf := ⟨_, rfl⟩
      obtain ⟨now, hnow⟩ : ∃ p, p = L2.map pageOf := ⟨_, rfl⟩
      rw [← hwas] at R6 F9 F8 F6 hc6
      rw [← hnow] at R9 hc9 hC9
      have hwl := Aside0.mk (show was.length ≤ 1000 by rw [hwas, List.length_map]; have := hL1l.out; omega)
      replace hwas := Aside0.mk hwas
      replace hnow := Aside0.mk hnow
      have ewl : was.length = L1.length := by rw [hwas.out, List.length_map]
      have enl : now.length = L2.length := by rw [hnow.out, List.length_map]
      have hSm := Aside0.mk (rsame_calls was now A6 c6 A9 c9 w9 (Kd.F_now F9.out) hc6.out hC9.out hc9.out (by have := hwl.out; omega))
      rw [ewl, enl] at hSm
      replace ewl := Aside0.mk ewl
      replace enl := Aside0.mk enl
      have hs69 := Aside0.mk (show w6.heap.size ≤ w9.heap.size by have := b7.out.size; have := (hf7.out _ f8.out).size; have := b9.out.size; omega)
      clear F6 F8 hX8 hX6 b6 b7 hf7 h6 h7 f8
      by_cases hne : er ≠ 0 ∨ (o.f0 ≠ 0 ∧ o.f0 ≠ 1 ∧ o.f0 ≠ 2 ∧ o.f0 ≠ 4)
      · skip
        have hLL : L2 = L1 := by
          rw [hL2.out]
          rcases hne with h | h
          · exact doesL_err L1 o (by rw [← her.out]; exact h)
          · exact doesL_keep L1 o h
        have hsb : sameB was now = true := by rw [hwas.out, hnow.out, hLL]; exact sameB_refl _
        rw [hsb] at hSm
        by_cases h1 : er = 0
        · have hk : o.f0 ≠ 0 ∧ o.f0 ≠ 1 ∧ o.f0 ≠ 2 ∧ o.f0 ≠ 4 := by
            rcases hne with h | h
            · exact absurd h1 h
            · exact h
          have n0 : (er != 0) = false := bne_eq_false_iff_eq.mpr h1
          have n1 : (o.f0 != 4) = true := bne_iff_ne.mpr hk.2.2.2
          have n2 : (o.f0 != 0) = true := bne_iff_ne.mpr hk.1
          have n3 : (o.f0 != 1) = true := bne_iff_ne.mpr hk.2.1
          have n4 : (o.f0 != 2) = true := bne_iff_ne.mpr hk.2.2.1
          clear hk h1 hne hLL hsb
          go_wp2_with (first | (go_at_call 11; refine hSm.out.mono ?_; rintro e w10 ⟨rfl, hd⟩; replace hd := Aside0.mk hd.below) | (go_at_call 7; refine (lives_calls _).mono ?_; rintro e w9 ⟨rfl, hb9⟩; replace hb9 := Aside0.mk hb9))
          go_returns
          exact ⟨rfl, hWX.out.trans (Below_low (below_step hd.out hb9.out) hWX.out.size)⟩
        · have n0 : (er != 0) = true := bne_iff_ne.mpr h1
          clear h1 hne hLL hsb
          go_wp2_with (first | (go_at_call 11; refine hSm.out.mono ?_; rintro e w10 ⟨rfl, hd⟩; replace hd := Aside0.mk hd.below) | (go_at_call 7; refine (lives_calls _).mono ?_; rintro e w9 ⟨rfl, hb9⟩; replace hb9 := Aside0.mk hb9))
          go_returns
          exact ⟨rfl, hWX.out.trans (Below_low (below_step hd.out hb9.out) hWX.out.size)⟩
      have hz : er = 0 := by
        by_cases h : er = 0
        · exact h
        · exact absurd (.inl h) hne
      have n0 : (er != 0) = false := bne_eq_false_iff_eq.mpr hz
      by_cases h4 : o.f0 = 4
      · have n1 : (o.f0 != 4) = false := bne_eq_false_iff_eq.mpr h4
        have hst := doesL_store L1 o h4
        replace h4 := Aside0.mk h4
        replace hz := Aside0.mk hz
        clear hne hSm
        go_upto_region 14 with fail
        have hXX := Aside0.mk (hX9.out)
        obtain ⟨a, hoa⟩ : ∃ a : Nat, o.f3 = (a : Int) := ⟨o.f3.toNat, by have := ho.out.1; omega⟩
        have ha : a < 18446744073709551616 := by have := ho.out.2.1; omega
        rw [hoa, Int.toNat_natCast] at hst
        have hm0 : mayB L1 a (o.f4.length : Int) 2 = 0 := by
          have h1 := congrArg (fun t : List Pg × Int × List Int => t.2.1) hst
          rw [← hz.out, her.out]
          exact h1.symm
        have hL2e : L2 = storeF L1 a 0 o.f4 := by
          rw [hL2.out, hst]
          show storeL _ _ _ = _
          unfold storeL
          rw [if_pos hm0]
        have hso := ME.ok h5.out
        have hpos := (mayB_range hm0).1
        have hp64 := (mayB_range hm0).2.1
        obtain ⟨rr, hrr⟩ := store_load hso.1 hso.2 a ha o.f4 ho.out.2.2 hm0
        rw [← hL2e] at hrr
        have hlen : L2.length = L1.length := by rw [hL2e]; exact storeF_len _ _ _
        have hrows := Aside0.mk (fun i hi => store_rows hso.1 hso.2 a ha o.f4 ho.out.2.2 hm0 i hi)
        rw [← hL2e, ← hwas.out, ← hnow.out] at hrows
        clear hst hso hL2e
        replace hm0 := Aside0.mk hm0
        have h2l : L2.length ≤ 151 := by have := hL1l.out; omega
        have b10 := below_alloc (Below.refl _ w9) (.cells #[.int .i64 2, .int .i64 7, .int .i64 0, .int .u64 (IntKind.u64.wrap (o.f3 - o.f3.tmod 4096)), .slice none 0 0, .int .i64 3, .int .i64 0, .int .i64 1, .int .u64 o.f3, .slice none 0 0] 25 (0, 0))
        have q10 := twoF (blk_new w9 (.cells #[.int .i64 2, .int .i64 7, .int .i64 0, .int .u64 (IntKind.u64.wrap (o.f3 - o.f3.tmod 4096)), .slice none 0 0, .int .i64 3, .int .i64 0, .int .i64 1, .int .u64 o.f3, .slice none 0 0] 25 (0, 0)))
        have h10 := h9.out.below b10
        have hdo := Does_go [⟨2, 7, 0, IntKind.u64.wrap (o.f3 - o.f3.tmod 4096), []⟩, ⟨3, 0, 1, o.f3, []⟩] (fun x hx => by
          have hw : IntKind.u64.wrap (o.f3 - o.f3.tmod 4096) = ((a - a % 4096 : Nat) : Int) := by rw [hoa]; exact wrap_page a ha
          rw [hw, hoa] at hx
          simp only [List.mem_cons, List.not_mem_nil, or_false] at hx
          rcases hx with rfl | rfl
          · exact ⟨by show (0 : Int) ≤ ((a - a % 4096 : Nat) : Int); omega, by show ((a - a % 4096 : Nat) : Int) < _; omega, fun x hx => by cases hx⟩
          · exact ⟨by show (0 : Int) ≤ (a : Int); omega, by show (a : Int) < _; omega, fun x hx => by cases hx⟩) (by simp) _ 2 _ h10 (by have := hl150.out; simp; omega) q10 (fun k hk hm => by
            have h1 := (h9.out.lt k (.inr hm)).2
            omega)
        rw [show (runL L2 [⟨2, 7, 0, IntKind.u64.wrap (o.f3 - o.f3.tmod 4096), []⟩, ⟨3, 0, 1, o.f3, []⟩]).2 = [rr, ⟨0, 0, [o.f4.getD 0 0]⟩] by rw [hoa, wrap_page a ha, hrr]] at hdo
        replace hdo := Aside0.mk hdo
        clear hrr q10
        replace h10 := Aside0.mk h10
        replace b10 := Aside0.mk b10
        replace hoa := Aside0.mk hoa
        replace ha := Aside0.mk ha
        have hd9 := Aside0.mk h9.out.lt
        have hdm := Aside0.mk (fun k (hm : Mown mb L2 B8 k) => h8.out.lt k (.inr hm))
        have him := Aside0.mk i8.out
        have g5 := Aside0.mk (fun k (hm : Mown mb L1 B5 k) => (h5.out.lt k (.inr hm)).2)
        clear i8 h8 r8 h9
        go_upto_region 15 with (go_at_call 14; refine hdo.out.mono ?_; rintro e w10 ⟨A10, c10, B10, rfl, h10', i10, f10, r10⟩; replace f10 := Aside0.mk f10; replace r10 := Aside0.mk r10; clear h10' i10)
        clear hdo x0 x1 x2 x3 x4 y0
        have hs39 := hX9.out.size
        have hs13 := hd3.out.size
        have hB10 := (Below_low b10.out hs39).trans (h10.out.far f10.out)
        have hX10 := below_step hd3.out (hXX.out.trans hB10)
        have hWX10 := hWX.out.trans (Below_low hB10 (by have := hb1.out.size; omega))
        have hsz9 : (w9.alloc (.cells #[.int .i64 2, .int .i64 7, .int .i64 0, .int .u64 (IntKind.u64.wrap (o.f3 - o.f3.tmod 4096)), .slice none 0 0, .int .i64 3, .int .i64 0, .int .i64 1, .int .u64 o.f3, .slice none 0 0] 25 (0, 0))).heap.size = w9.heap.size + 1 := World.size_alloc ..
        have hs69 : w6.heap.size ≤ w9.heap.size := hs69.out
        have FW := Kd.F_step (Kd.F_below F9.out b10.out) (fun k hk _ => f10.out.block k (by have := hk.2; rw [hsz9]; omega) (fun hm => by
          rcases him.out k hm with e | e
          · have := g5.out k e
            have := hk.1
            omega
          · rw [World.size_alloc] at e
            have := hk.2
            omega))
        have FN := Kd.F_step (Kd.F_below (Kd.R_F (Kd.R_mono (ok' := fun k => w8.heap.size ≤ k ∧ k < w9.heap.size) (Kd.R_bound R9.out) (fun k hk => ⟨hk.2.1, hk.2.2.1⟩))) b10.out) (fun k hk _ => f10.out.block k (by have := hk.2; rw [hsz9]; omega) (fun hm => by
          have := (hdm.out k hm).2
          have := hk.1
          omega))
        have FD := Kd.F_below hD0.out hX10
        obtain ⟨gA, eg⟩ := R_head r10.out (by simp)
        subst eg
        obtain ⟨A2b, c2b, z0, z1, z2, zl, z3⟩ := ans_at (Kd.R_reads' r10.out).2.2 1 (by simp)
        obtain ⟨ad2, eA, z4⟩ := bitem z3 0 (by show 0 < 1; omega)
        subst eA
        replace z0 : w10.cell? ⟨gA, 3, none⟩ = some (.int .i64 0) := z0
        replace z2 : w10.cell? ⟨gA, 5, none⟩ = some (.slice (some ad2) 1 c2b) := z2
        replace z4 : w10.cell? (ad2.add 0) = some (.int .u8 (o.f4.getD 0 0)) := z4
        have hc10 := (Kd.R_reads' r10.out).2.1
        simp only [List.length_cons, List.length_nil] at hc10
        replace zl : 1 ≤ c2b := zl
        have hposN : 0 < o.f4.length := by omega
        obtain ⟨ad4, eA, y4⟩ := bitem (Kd.F_now FD) 0 hposN
        subst eA
        obtain ⟨x0, x1, x2, x3, x4⟩ := hbx.out _ hX10
        have n5 : ((o.f4.length : Int) == 0) = false := beq_eq_false_iff_ne.mpr (by omega)
        have n6 : (o.f4.length == 0) = false := beq_eq_false_iff_ne.mpr (by omega)

        replace FW := Aside0.mk FW
        replace FN := Aside0.mk FN
        replace FD := Aside0.mk FD
        replace hX10 := Aside0.mk hX10
        replace hWX10 := Aside0.mk hWX10
        replace hlen := Aside0.mk hlen
        replace h2l := Aside0.mk h2l
        replace hp64 := Aside0.mk hp64
        have h0b : ∃ v, v = o.f4.getD 0 0 := ⟨_, rfl⟩
        obtain ⟨v0, hv0⟩ := h0b
        rw [← hv0] at z4 y4
        replace z4 : w10.cell? ad2 = some (.int .u8 v0) := z4
        replace y4 : w10.cell? ad4 = some (.int .u8 v0) := y4
        clear z1 z3 r10 hpos hs39 hs13 hB10 hsz9 hs69 him g5 hdm hd9 f10 b10 h10 hv0 x0 x1 x2 F9 R9 R6 hc8
        have d0 : decide (0 < o.f4.length) = true := decide_eq_true hposN
        go_quiet (fail)
        as_aux_lemma =>
          have bq := Aside0.mk (show Below w10.heap.size w10 (w10.drewN nq) from pw_below_drewN (Below.refl _ w10) nq)
          have FW1 := Aside0.mk (Kd.F_below FW.out bq.out)
          have FN1 := Aside0.mk (Kd.F_below FN.out bq.out)
          have FD1 := Aside0.mk (Kd.F_below FD.out bq.out)
          have hX11 := Aside0.mk (below_step hX10.out bq.out)
          have hWX11 := Aside0.mk (hWX10.out.trans (Below_low bq.out hWX10.out.size))
          replace hposN := Aside0.mk hposN
          clear bq FW FN FD hX10 hWX10 x3 x4 z0 z2 z4 y4 zl n0 n1 d0
          generalize w10.drewN nq = w11 at *
          go_upto_region 18 with fail
          go_loopg [10] L1.length (fun kq v10 w' => ∃ (i : Nat), v10 = .int .i64 (i : Int) ∧ Aside0 (i + kq = L1.length) ∧ Aside0 (Below w11.heap.size w11 w'))
          case atStart => exact ⟨0, rfl, ⟨by omega⟩, ⟨Below.refl _ _⟩⟩
          case round =>
            obtain ⟨i, rfl, HK, HB⟩ := hrel
            cases gk with
            | zero =>
              have e0 : decide ((i : Int) < (L1.length : Int)) = false := decide_eq_false (by have := HK.out; omega)
              have e0' : decide (i < L1.length) = false := decide_eq_false (by have := HK.out; omega)
              go_wp2_with (go_at_call 7; refine (lives_calls _).mono ?_; rintro e w19 ⟨rfl, hb19⟩; replace hb19 := Aside0.mk hb19)
              go_returns
              exact ⟨rfl, (hWX11.out.trans (Below_low HB.out hWX11.out.size)).trans (Below_low hb19.out (Nat.le_trans hWX11.out.size HB.out.size))⟩
            | succ k1 =>
              as_aux_lemma =>
                have hi : i < L1.length := by have := HK.out; omega
                have hiw : i < was.length := by rw [ewl.out]; exact hi
                have hin : i < now.length := by rw [enl.out, hlen.out]; exact hi
                obtain ⟨v, hrow⟩ := hrows.out i hi
                have e0 : decide ((i : Int) < (L1.length : Int)) = true := decide_eq_true (by omega)
                have e0' : decide (i < L1.length) = true := decide_eq_true hi
                have ws := Aside0.mk (w64s i (by have := hL1l.out; omega))
                have rW := Aside0.mk (fun (w' : World) (hb : Below w11.heap.size w11 w') => at35 (Kd.F_now (Kd.F_below FW1.out hb)) i hiw)
                have rN := Aside0.mk (fun (w' : World) (hb : Below w11.heap.size w11 w') => at35 (Kd.F_now (Kd.F_below FN1.out hb)) i hin)
                rw [hrow.xl, hrow.f0] at rW
                rw [hrow.yl, hrow.g0] at rN
                obtain ⟨adW, B1, c1, eA, x0, x1, x2, xl, x3⟩ := rW.out _ HB.out
                obtain ⟨adN, B2, c2', eB, y0, y1, y2, yl, y3⟩ := rN.out _ HB.out
                replace hiw := Aside0.mk hiw
                replace hin := Aside0.mk hin
                replace hrow := Aside0.mk hrow
                clear x3 y3 x1 y1 hrows
                subst eA
                subst eB
                go_upto_region 20 with fail
                go_quiet (fail)
                have HB' := Aside0.mk (pw_below_drewN HB.out nq)
                clear x0 x2 y0 y2 HB
                generalize wr.drewN nq = w12 at *
                go_upto_region 23 with fail
                go_loopg [11] 4096 (fun kq v11 w' => ∃ (k : Nat), v11 = .int .i64 (k : Int) ∧ Aside0 (k + kq = 4096) ∧ Aside0 (Below w11.heap.size w11 w'))
                case atStart => exact ⟨0, rfl, ⟨by omega⟩, HB'⟩
                case round =>
                  clear HB'
                  obtain ⟨k, rfl, HK2, HB2⟩ := hrel
                  cases gk with
                  | zero =>
                    have f0 : decide ((k : Int) < 4096) = false := decide_eq_false (by have := HK2.out; omega)
                    have f0' : decide (k < 4096) = false := decide_eq_false (by have := HK2.out; omega)
                    go_wp2
                    go_roundg k1
                    case measure => omega
                    case rel => exact ⟨i + 1, (by first | rw [ws.out] | rfl), ⟨by have := HK.out; omega⟩, HB2⟩
                  | succ k2 =>
                    as_aux_lemma =>
                      have hk : k < 4096 := by have := HK2.out; omega
                      have f0 : decide ((k : Int) < 4096) = true := decide_eq_true (by omega)
                      have f0' : decide (k < 4096) = true := decide_eq_true hk
                      have wk := Aside0.mk (w64s k (by omega))
                      have e1 := u64i k (by omega)
                      obtain ⟨adW', B1', c1', eA, x0, x1, x2, xl', x3⟩ := rW.out _ HB2.out
                      injection eA with eA
                      subst eA
                      obtain ⟨adN', B2', c2'', eB, y0, y1, y2, yl', y3⟩ := rN.out _ HB2.out
                      injection eB with eB
                      subst eB
                      obtain ⟨t0, t1, t2, t3, t4⟩ := hbx.out _ (below_step hX11.out HB2.out)
                      rw [hoa.out] at t3
                      have hvl := hrow.out.lt
                      have heq := hrow.out.eq k hk
                      obtain ⟨s, hs⟩ : ∃ s, s = v + k := ⟨_, rfl⟩
                      have hs1 : IntKind.u64.wrap ((v : Int) + (k : Int)) = (s : Int) := by rw [hs, ← u64i (v + k) (by omega)]; rfl
                      have hs2 := wrap_sub s a (by omega) ha.out
                      rw [← hs] at heq
                      generalize (s + (18446744073709551616 - a)) % 18446744073709551616 = d at *
                      rw [← hrow.out.xl] at x3
                      rw [← hrow.out.yl] at y3
                      obtain ⟨xd, eC, z1⟩ := bitem x3 k (by rw [hrow.out.xl]; exact hk)
                      subst eC
                      obtain ⟨yd, eC, z2⟩ := bitem y3 k (by rw [hrow.out.yl]; exact hk)
                      subst eC
                      have e2 := u64i o.f4.length (by have := hp64.out; omega)
                      clear x3 y3 x1 y1 t0 t1 t2 hvl
                      replace hs := Aside0.mk hs
                      by_cases hd : d < o.f4.length
                      · rw [if_pos hd] at heq
                        obtain ⟨ad4', eC, z3⟩ := bitem (Kd.F_now (Kd.F_below FD1.out HB2.out)) d hd
                        injection eC with eC
                        subst eC
                        rw [heq] at z2
                        generalize o.f4.getD d 0 = b at *
                        have g0 : decide ((d : Int) < (o.f4.length : Int)) = true := decide_eq_true (by omega)
                        have g0' : decide (d < o.f4.length) = true := decide_eq_true hd
                        obtain ⟨e3, e4⟩ := wrap_small d o.f4.length hd hp64.out
                        replace heq := Aside0.mk heq
                        clear z1
                        go_upto_region 25 with fail
                        go_quiet (fail)
                        go_upto_region 27 with fail
                        go_quiet (fail)
                        go_wp2
                        go_roundg k2
                        case measure => omega
                        case rel => exact ⟨k + 1, (by first | rw [wk.out] | rfl), ⟨by have := HK2.out; omega⟩, ⟨by repeat (first | exact HB2.out | refine pw_below_drewN ?_ _)⟩⟩
                      · rw [if_neg hd] at heq
                        rw [heq] at z2
                        generalize (rd_T35 was (i : Int)).f2.getD k 0 = b at *
                        have g0 : decide ((d : Int) < (o.f4.length : Int)) = false := decide_eq_false (by omega)
                        have g0' : decide (d < o.f4.length) = false := decide_eq_false hd
                        replace heq := Aside0.mk heq
                        go_upto_region 25 with fail
                        go_quiet (fail)
                        go_upto_region 29 with fail
                        go_quiet (fail)
                        go_wp2
                        go_roundg k2
                        case measure => omega
                        case rel => exact ⟨k + 1, (by first | rw [wk.out] | rfl), ⟨by have := HK2.out; omega⟩, ⟨by repeat (first | exact HB2.out | refine pw_below_drewN ?_ _)⟩⟩
      · have n1 : (o.f0 != 4) = true := bne_iff_ne.mpr h4
        by_cases h0 : o.f0 = 0
        · have n2 : (o.f0 != 0) = false := bne_eq_false_iff_eq.mpr h0
          clear h0 h4 hz hne
          go_wp2_with (go_at_call 7; refine (lives_calls _).mono ?_; rintro e w9 ⟨rfl, hb9⟩; replace hb9 := Aside0.mk hb9)
          go_returns
          exact ⟨rfl, hWX.out.trans (Below_low hb9.out hWX.out.size)⟩
        · have n2 : (o.f0 != 0) = true := bne_iff_ne.mpr h0
          by_cases h1 : o.f0 = 1
          · have n3 : (o.f0 != 1) = false := bne_eq_false_iff_eq.mpr h1
            clear h0 h1 h4 hz hne
            go_wp2_with (go_at_call 7; refine (lives_calls _).mono ?_; rintro e w9 ⟨rfl, hb9⟩; replace hb9 := Aside0.mk hb9)
            go_returns
            exact ⟨rfl, hWX.out.trans (Below_low hb9.out hWX.out.size)⟩
          · have n3 : (o.f0 != 1) = true := bne_iff_ne.mpr h1
            have h2 : o.f0 = 2 := by
              by_cases h : o.f0 = 2
              · exact h
              · exact absurd (.inr ⟨h0, h1, h, h4⟩) hne
            have n4 : (o.f0 != 2) = false := bne_eq_false_iff_eq.mpr h2
            clear h0 h1 h2 h4 hz hne
            go_wp2_with (go_at_call 7; refine (lives_calls _).mono ?_; rintro e w9 ⟨rfl, hb9⟩; replace hb9 := Aside0.mk hb9)
            go_returns
            exact ⟨rfl, hWX.out.trans (Below_low hb9.out hWX.out.size)⟩
end Go.Proofs.Ytgcgnpinhlmmjaa.Hand
