/- TlbPlays, walked (written by genQ8.py). -/
import Derived.Test.YtfmkjdbhijeejaaP12
import Derived.Deep.RegionLaw
import Derived.Deep.RegionHeld3
import Derived.Deep.DeepCutAuto
import Derived.Deep.CutBlock
namespace Go.Proofs.Ytfmkjdbhijeejaa.Hand
set_option linter.unusedVariables false
set_option linter.unusedSimpArgs false
open Go.RowKit Go.Proofs.Ytfmkjdbhijeejaa.R Go.Proofs.YtfmkjdbhijeejaaW.PrintWords Go.Proofs.YtfmkjdbhijeejaaW.PrintMore

theorem C_farN {w w' : World} {A : Option Addr} {n g : Nat} {l : List NN} (h : Kd.C kN w A n l) (hf : Far (fun x => x = g) w w') (hne : ∀ ad, A = some ad → ad.block ≠ g) : Kd.C kN w' A n l := by
  obtain ⟨h1, h2, h3⟩ := h
  refine ⟨h1, h2, fun hp => ?_⟩
  obtain ⟨ad, e1, e2⟩ := h3 hp
  refine ⟨ad, e1, fun j p hj => ?_⟩
  obtain ⟨cs, c1, c2, c3⟩ := e2 j p hj
  obtain rfl := kN_open c2
  refine ⟨_, c1, kN.K_of_M (kN_mkM w' 0 (fun _ => True) p), fun k u hk => ?_⟩
  have h5 := c3 k u hk
  rw [← h5]
  exact World.cell?_of_block (hf.block _ (World.block_lt_of_cell? w _ h5) (by rw [add_block]; exact hne ad e1))
/-- What the loop keeps. -/
structure LT (W : World) (g : Nat) (A : Option Addr) (L : List Int) (l : List NN) (h m : Int) (i : Nat) (w : World) : Prop where
  blk : w.heap[g]? = some (.cells (ints L) 53 (0, 0))
  rel : RelT L l
  u03 : U03 l
  len : l.length ≤ i
  hits : L[48]? = some h
  miss : L[49]? = some m
  cx : Kd.C kN w A l.length l
  ax : ∀ ad, A = some ad → ad.block ≠ g
  bel : Below W.heap.size W w
  lo : W.heap.size ≤ g
theorem LT.step {W : World} {g : Nat} {A : Option Addr} {L : List Int} {l : List NN} {h m : Int} {i : Nat} {w w' : World} (t : LT W g A L l h m i w) (k : Below w.heap.size w w') : LT W g A L l h m (i + 1) w' :=
  ⟨blk_below t.blk k, t.rel, t.u03, by have := t.len; omega, t.hits, t.miss, Kd.C_below t.cx k, t.ax, below_step t.bel k, t.lo⟩
theorem LT.below {W : World} {g : Nat} {A : Option Addr} {L : List Int} {l : List NN} {h m : Int} {i : Nat} {w w' : World} (t : LT W g A L l h m i w) (k : Below w.heap.size w w') : LT W g A L l h m i w' :=
  ⟨blk_below t.blk k, t.rel, t.u03, t.len, t.hits, t.miss, Kd.C_below t.cx k, t.ax, below_step t.bel k, t.lo⟩
theorem far_bel {W w w' : World} {g : Nat} (h : Below W.heap.size W w) (f : Far (fun x => x = g) w w') (hg : W.heap.size ≤ g) : Below W.heap.size W w' :=
  h.trans (f.below h.size (fun i e => by rw [e]; exact hg))
theorem first_calls (B : Option Addr) (c : Nat) (us : List Int) (w : World) (hU : Kd.C (Kd.int .i64) w B us.length us) (hl : us.length ≤ 100000) :
    Calls Try.prog 18 #[.slice B us.length c] w fun e w' => e = .returned (.int .i64 (us.headD 0)) ∧ w' = w := by
  cases us with
  | nil =>
    go_enter Try.func18, Try.ntmps18
    go_wp2
    go_returns
    exact ⟨rfl, rfl⟩
  | cons u r =>
    obtain ⟨bd, rfl, hc⟩ := elemI hU 0 (by simp)
    have hc' : w.cell? (bd.add 0) = some (.int .i64 u) := hc
    have hz : bd.add 0 = bd := by unfold Addr.add; split <;> simp_all
    rw [hz] at hc'
    have e1 : (((u :: r).length : Nat) : Int) = (r.length : Int) + 1 := by simp
    have b1 : ((((u :: r).length : Nat) : Int) == 0) = false := beq_eq_false_iff_ne.mpr (by omega)
    have i1 : (0 : Int) < (((u :: r).length : Nat) : Int) := by omega
    have i2 : 0 < (u :: r).length := by simp
    show Calls Try.prog 18 _ w fun e w' => e = .returned (.int .i64 u) ∧ w' = w
    generalize (u :: r).length = n at b1 i1 i2 ⊢
    clear e1 hU hl hc
    go_enter Try.func18, Try.ntmps18
    go_wp2
    go_returns
    exact ⟨rfl, rfl⟩
theorem rfindW (A : Option Addr) (c : Nat) (l : List NN) (page use : Int) (w : World) (hC : Kd.C kN w A l.length l) (hl : l.length ≤ 100000) :
    Calls Try.prog 17 #[.slice A l.length c, .int .i64 page, .int .i64 use] w fun e w' => e = .returned (.int .i64 (findW l page use)) ∧ w' = w := by
  unfold findW
  by_cases h : use < 0 ∨ 4 < use
  · rw [if_pos h]
    exact rfind_bad A _ c page use w h
  · rw [if_neg h]
    have := rfind_calls A c l page use.toNat w hC hl (by omega)
    rw [show ((use.toNat : Nat) : Int) = use by omega] at this
    exact this
theorem ints_l0 (xs : List Int) (hx : xs.length < 4611686018427387904) : ∀ (d k i : Nat), i + d = xs.length → d < k → gunnyref02_Ints.l0 k xs xs (i : Int) = some true
  | 0, k, i, h, hk => by
    obtain ⟨k, rfl⟩ : ∃ n, k = n + 1 := ⟨k - 1, by omega⟩
    simp only [gunnyref02_Ints.l0]
    rw [if_neg (by omega)]
  | d + 1, k, i, h, hk => by
    obtain ⟨k, rfl⟩ : ∃ n, k = n + 1 := ⟨k - 1, by omega⟩
    simp only [gunnyref02_Ints.l0]
    rw [if_pos (by omega), if_pos (by omega), if_pos (by omega), if_pos trivial, w64s i (by omega)]
    exact ints_l0 xs hx d k (i + 1) (by omega) (by omega)
theorem ints_same (xs : List Int) (hx : xs.length < 4611686018427387904) : gunnyref02_Ints.f (xs.length + 1) xs xs = some true := by
  unfold gunnyref02_Ints.f
  rw [if_pos rfl]
  exact ints_l0 xs hx xs.length _ 0 (by omega) (by omega)
theorem RelT.zeros : RelT Hand.zeros [] := RelT.start
theorem LT.find_yes {W : World} {g : Nat} {A : Option Addr} {L : List Int} {l : List NN} {h m : Int} {i : Nat} {w : World} (t : LT W g A L l h m i w) (page use : Int) (h0 : 0 ≤ page) (hf : findOk L page.toNat use) (fr : Int) (hfr : L[page.toNat % 16 * 3 + 1]? = some fr) {gd : Nat} {o : Obj} (hD : w.heap[gd]? = some o) (hne : gd ≠ g) :
    Calls Try.prog 8 #[.pointer (some ⟨g, 0, none⟩), .int .i64 page, .int .i64 use] w fun e w' => e = .returned (.tuple #[.int .i64 fr, .bool true]) ∧ LT W g A (L.set 48 (wrap64 (h + 1))) l (wrap64 (h + 1)) m (i + 1) w' ∧ w'.heap[gd]? = some o := by
  have hl := t.rel.len
  refine (findy g L page.toNat use w t.blk hl hf h t.hits fr hfr page (by omega)).mono ?_
  rintro e w' ⟨rfl, hb, hF⟩
  refine ⟨rfl, ⟨hb, t.rel.count 48 (by omega) _, t.u03, by have := t.len; omega, ?_, ?_, C_farN t.cx hF t.ax, t.ax, far_bel t.bel hF t.lo, t.lo⟩, hF.blk hD hne⟩
  · rw [List.getElem?_set_self (by omega)]
  · rw [List.getElem?_set_ne (by omega)]; exact t.miss
theorem LT.find_no {W : World} {g : Nat} {A : Option Addr} {L : List Int} {l : List NN} {h m : Int} {i : Nat} {w : World} (t : LT W g A L l h m i w) (page use : Int) (hf : ¬ (0 ≤ page ∧ findOk L page.toNat use)) {gd : Nat} {o : Obj} (hD : w.heap[gd]? = some o) (hne : gd ≠ g) :
    Calls Try.prog 8 #[.pointer (some ⟨g, 0, none⟩), .int .i64 page, .int .i64 use] w fun e w' => e = .returned (.tuple #[.int .i64 0, .bool false]) ∧ LT W g A (L.set 49 (wrap64 (m + 1))) l h (wrap64 (m + 1)) (i + 1) w' ∧ w'.heap[gd]? = some o := by
  have hl := t.rel.len
  refine (find_not g L page use w t.blk hl hf m t.miss).mono ?_
  rintro e w' ⟨rfl, hb, hF⟩
  refine ⟨rfl, ⟨hb, t.rel.count 49 (by omega) _, t.u03, by have := t.len; omega, ?_, ?_, C_farN t.cx hF t.ax, t.ax, far_bel t.bel hF t.lo, t.lo⟩, hF.blk hD hne⟩
  · rw [List.getElem?_set_ne (by omega)]; exact t.hits
  · rw [List.getElem?_set_self (by omega)]

set_option maxHeartbeats 32000000 in
set_option maxRecDepth 100000 in
theorem plays_law (A : Option Addr) (c : Nat) (ls : List S36) (W : World) (hC : Kd.C k36 W A ls.length ls) (hc : ls.length ≤ c) (hl : ls.length < 18446744073709551616) :
    Calls Try.prog 5 #[.slice A ls.length c] W fun e w' => e = .returned (.bool true) ∧ Below W.heap.size W w' := by
  obtain ⟨b, hg, hb⟩ := great_some ls hl
  have G := Aside0.mk (fun w (k : Below W.heap.size W w) => gunnylaw34_great.calls 500 A c ls b w (Kd.C_below hC k) hc hg)
  replace hC := Aside0.mk hC
  replace hl := Aside0.mk hl
  replace hb := Aside0.mk hb
  clear hg hc
  cases b with
  | true =>
    go_enter Try.func5, Try.ntmps5
    go_wp2_with (first
  | (go_at_call 8; refine (find_nil _ _ _).mono ?_; rintro e w1 ⟨rfl, h1⟩; replace h1 := h1.symm; subst h1)
  | (go_at_call 14; refine (clear_nil _).mono ?_; rintro e w1 ⟨rfl, h1⟩; replace h1 := h1.symm; subst h1)
  | (go_at_call 9; refine (hits_nil _).mono ?_; rintro e w1 ⟨rfl, h1⟩; replace h1 := h1.symm; subst h1)
  | (go_at_call 10; refine (misses_nil _).mono ?_; rintro e w1 ⟨rfl, h1⟩; replace h1 := h1.symm; subst h1)
  | (go_at_call 15; refine (frames_nil _).mono ?_; rintro e w1 ⟨rfl, h1⟩; replace h1 := h1.symm; subst h1)
  | (go_at_call 7; refine (note_nil1 _ _ rfl).mono ?_; rintro e wn ⟨rfl, hbn⟩; replace hbn := Aside0.mk hbn)
  | (go_at_call 13; refine (flush_nil1 _ _ rfl).mono ?_; rintro e wf ⟨rfl, hbf⟩; replace hbf := Aside0.mk (below_step hbn.out hbf))
  | (go_at_call 12; refine (G.out _ hbf.out).mono ?_; rintro e w0 ⟨rfl, hd⟩; replace hd := Aside0.mk (below_step hbf.out hd.below))
  | (go_at_call 11; refine (lives_calls _).mono ?_; rintro e w9 ⟨rfl, hb9⟩; replace hb9 := Aside0.mk hb9))
    go_returns
    exact ⟨rfl, below_step hd.out hb9.out⟩
  | false =>
    have h100 := Aside0.mk (hb.out rfl).1
    have hsz0 := Aside0.mk (hb.out rfl).2
    clear hb
    go_enter Try.func5, Try.ntmps5
    go_upto_region 9 with (first
  | (go_at_call 8; refine (find_nil _ _ _).mono ?_; rintro e w1 ⟨rfl, h1⟩; replace h1 := h1.symm; subst h1)
  | (go_at_call 14; refine (clear_nil _).mono ?_; rintro e w1 ⟨rfl, h1⟩; replace h1 := h1.symm; subst h1)
  | (go_at_call 9; refine (hits_nil _).mono ?_; rintro e w1 ⟨rfl, h1⟩; replace h1 := h1.symm; subst h1)
  | (go_at_call 10; refine (misses_nil _).mono ?_; rintro e w1 ⟨rfl, h1⟩; replace h1 := h1.symm; subst h1)
  | (go_at_call 15; refine (frames_nil _).mono ?_; rintro e w1 ⟨rfl, h1⟩; replace h1 := h1.symm; subst h1)
  | (go_at_call 7; refine (note_nil1 _ _ rfl).mono ?_; rintro e wn ⟨rfl, hbn⟩; replace hbn := Aside0.mk hbn)
  | (go_at_call 13; refine (flush_nil1 _ _ rfl).mono ?_; rintro e wf ⟨rfl, hbf⟩; replace hbf := Aside0.mk (below_step hbn.out hbf))
  | (go_at_call 12; refine (G.out _ hbf.out).mono ?_; rintro e w0 ⟨rfl, hd⟩; replace hd := Aside0.mk (below_step hbf.out hd.below))
  | (go_at_call 6; refine (new_calls _).mono ?_; rintro e w1 ⟨rfl, rfl⟩))
    have hI := Aside0.mk (show LT W w0.heap.size none Hand.zeros [] 0 0 0 (w0.alloc (.cells (ints Hand.zeros) 53 (0, 0))) from
      ⟨blk_new w0 _, RelT.zeros, fun y hy => (by cases hy), Nat.zero_le _, by decide +kernel, by decide +kernel, (Kd.R_reads' (Kd.R_nil kN 62 _ 0 (fun _ => True))).2.2, fun ad h => (by cases h), below_step hd.out (below_alloc (Below.refl _ w0) _), hd.out.size⟩)
    obtain ⟨g, hge⟩ : ∃ g, g = w0.heap.size := ⟨_, rfl⟩
    rw [← hge] at hI ⊢
    generalize w0.alloc (.cells (ints Hand.zeros) 53 (0, 0)) = w1 at hI ⊢
    clear hge G hbn hbf hd
    go_wp2
    go_loopg [7, 8, 9, 10] ls.length (fun kq v7 v8 v9 v10 w' => ∃ (i : Nat) (A2 : Option Addr) (c2 : Nat) (l : List NN) (L : List Int) (h m : Int), v7 = .slice A2 l.length c2 ∧ v8 = .int .i64 h ∧ v9 = .int .i64 m ∧ v10 = .int .i64 (i : Int) ∧ Aside0 (i + kq = ls.length) ∧ Aside0 (LT W g A2 L l h m i w'))
    case atStart => exact ⟨0, none, 0, [], Hand.zeros, 0, 0, rfl, rfl, rfl, rfl, ⟨by omega⟩, hI⟩
    case round =>
      clear hI
      obtain ⟨i, A2, c2, l, L, h, m, rfl, rfl, rfl, rfl, HK, HI⟩ := hrel
      cases gk with
      | zero =>
        obtain rfl : i = ls.length := by have := HK.out; omega
        have d3 : decide (((ls.length : Nat) : Int) < ((ls.length : Nat) : Int)) = false := decide_eq_false (by omega)
        go_wp2_with (go_at_call 11; refine (lives_calls _).mono ?_; rintro e w9 ⟨rfl, hb9⟩; replace hb9 := Aside0.mk hb9)
        go_returns
        exact ⟨rfl, below_step HI.out.bel hb9.out⟩
      | succ k1 =>
        have hi : i < ls.length := by have := HK.out; omega
        have e1 : decide ((i : Int) < ((ls.length : Nat) : Int)) = true := decide_eq_true (by omega)
        have e2 : decide (i < ls.length) = true := decide_eq_true hi
        have i0 : (0 : Int) ≤ (i : Int) := by omega
        have hi100 := Aside0.mk (show i < 100 by have := h100.out; omega)
        have hsz := Aside0.mk (hsz0.out i hi)
        obtain ⟨ad, A3, c3, A4, c4, rfl, hcells, h3, hu, h4, hp⟩ := deed_at hC.out i hi
        generalize ls[i] = x at hsz hcells h3 hu h4 hp
        obtain ⟨k0, k1', k2, k3, k4⟩ := hcells wr HI.out.bel
        clear hcells
        replace hu := Aside0.mk hu
        replace hp := Aside0.mk hp
        replace h3 := Aside0.mk h3
        replace h4 := Aside0.mk h4
        have hi9 : i < ls.length := hi
        replace hi := Aside0.mk hi
        have ws := Aside0.mk (w64s i (by have := hi100.out; omega))
        have hD1 : (wr.alloc (.cells #[.int .i64 x.f0, .int .i64 x.f1, .int .i64 x.f2, .slice A3 x.f3.length c3, .slice A4 x.f4.length c4] 36 (0, 0))).heap[wr.heap.size]? = some (.cells #[.int .i64 x.f0, .int .i64 x.f1, .int .i64 x.f2, .slice A3 x.f3.length c3, .slice A4 x.f4.length c4] 36 (0, 0)) := blk_new wr _
        have hI1 : LT W g A2 L l h m i (wr.alloc (.cells #[.int .i64 x.f0, .int .i64 x.f1, .int .i64 x.f2, .slice A3 x.f3.length c3, .slice A4 x.f4.length c4] 36 (0, 0))) := HI.out.below (below_alloc (Below.refl _ wr) _)
        have hg := blk_lt HI.out.blk
        go_upto_region 15 with fail
        obtain ⟨W1, hW1⟩ : ∃ W1, W1 = wr.alloc (.cells #[.int .i64 x.f0, .int .i64 x.f1, .int .i64 x.f2, .slice A3 x.f3.length c3, .slice A4 x.f4.length c4] 36 (0, 0)) := ⟨_, rfl⟩
        rw [← hW1] at hD1 hI1 ⊢
        obtain ⟨gd, egd⟩ : ∃ gd, gd = wr.heap.size := ⟨_, rfl⟩
        rw [← egd] at hD1 hg ⊢
        have dc0 : W1.cell? ⟨gd, 0, none⟩ = some (.int .i64 x.f0) := blk_cell hD1 0
        have dc1 : W1.cell? ⟨gd, 1, none⟩ = some (.int .i64 x.f1) := blk_cell hD1 1
        have dc2 : W1.cell? ⟨gd, 2, none⟩ = some (.int .i64 x.f2) := blk_cell hD1 2
        have dc3 : W1.cell? ⟨gd, 3, none⟩ = some (.slice A3 x.f3.length c3) := blk_cell hD1 3
        have dc4 : W1.cell? ⟨gd, 4, none⟩ = some (.slice A4 x.f4.length c4) := blk_cell hD1 4
        replace hD1 := Aside0.mk hD1
        replace hI1 := Aside0.mk hI1
        replace hg := Aside0.mk hg
        replace hW1 := Aside0.mk hW1
        replace egd := Aside0.mk egd
        clear k0 k1' k2 k3 k4 HI hW1 egd hi9
        have hll := Aside0.mk (show l.length ≤ 100000 by have := hI1.out.len; have := hi100.out; omega)
        have hxu := Aside0.mk (show x.f3.length ≤ 100000 ∧ x.f3.length < 4611686018427387904 by have := hsz.out.1; omega)
        have hxp := Aside0.mk (show x.f4.length ≤ 100000 ∧ x.f4.length < 1000000 by have := hsz.out.2; omega)
        go_upto_block 2 with (fail)
        go_cut [7, 8, 9] (fun v7 v8 v9 wc => ∃ (A5 : Option Addr) (c5 : Nat) (l5 : List NN) (L5 : List Int) (h5 m5 : Int), v7 = .slice A5 l5.length c5 ∧ v8 = .int .i64 h5 ∧ v9 = .int .i64 m5 ∧ Aside0 (LT W g A5 L5 l5 h5 m5 (i + 1) wc))
        case first =>
          by_cases h01 : x.f0 = 0 ∨ x.f0 = 1
          · have q01 : (x.f0 == 0) = true ∨ ((x.f0 == 0) = false ∧ (x.f0 == 1) = true) := by
              by_cases h0 : x.f0 = 0
              · exact .inl (beq_iff_eq.mpr h0)
              · exact .inr ⟨beq_eq_false_iff_ne.mpr h0, beq_iff_eq.mpr (by omega)⟩
            clear h01
            rcases q01 with q0 | ⟨q0, q1⟩
            all_goals
              as_aux_lemma =>
                cases hall : x.f3.all goodU with
                | false =>
                  have hR := rnote_bad A2 l.length c2 x.f1 x.f2 A3 c3 x.f3 W1 (hu.out W1 hI1.out.bel) hxu.out.1 hall
                  obtain ⟨mk, hmk⟩ : ∃ mk, maskN x.f3 0 = (mk, false) := ⟨(maskN x.f3 0).1, by have := maskN_bad x.f3 0 hall; rw [← this]⟩
                  have hT := Aside0.mk (fun w6 (k : Below W1.heap.size W1 w6) => note_no g x.f1 x.f2 A3 c3 x.f3 mk false w6 (Kd.C_below (hu.out W1 hI1.out.bel) k) h3.out hxu.out.2 hmk (.inl rfl))
                  replace hR := Aside0.mk hR
                  clear hmk hall
                  go_upto_region 22 with (go_at_call 16; refine hR.out.mono ?_; rintro e w6 ⟨rfl, hb6⟩; have y1 := pw_cell_below hb6 dc1; have y2 := pw_cell_below hb6 dc2; have y3 := pw_cell_below hb6 dc3; replace hb6 := Aside0.mk hb6)
                  clear dc0 dc1 dc2 dc3 dc4
                  have hT6 := Aside0.mk (hT.out w6 hb6.out)
                  go_wp2_with (go_at_call 7; refine hT6.out.mono ?_; rintro e w7 ⟨rfl, hd7⟩; replace hd7 := Aside0.mk hd7)
                  go_meet
                  case rel => exact ⟨A2, c2, l, L, h, m, rfl, rfl, rfl, ⟨hI1.out.step (below_step hb6.out hd7.out.below)⟩⟩
                | true =>
                  by_cases hbd : x.f1 < 0 ∨ x.f1 ≥ 68719476736 ∨ x.f2 < 0 ∨ x.f2 ≥ 96
                  · have hR := rnote_out A2 l.length c2 x.f1 x.f2 A3 c3 x.f3 W1 (hu.out W1 hI1.out.bel) hxu.out.1 hall (by omega)
                    obtain ⟨mk, hmk⟩ : ∃ mk, maskN x.f3 0 = (mk, true) := ⟨_, maskN_use x.f3 ⟨x.f1, x.f2, false, false, false, false, false⟩ hall⟩
                    have hT := Aside0.mk (fun w6 (k : Below W1.heap.size W1 w6) => note_no g x.f1 x.f2 A3 c3 x.f3 mk true w6 (Kd.C_below (hu.out W1 hI1.out.bel) k) h3.out hxu.out.2 hmk (.inr hbd))
                    replace hR := Aside0.mk hR
                    clear hmk hall hbd
                    go_upto_region 22 with (go_at_call 16; refine hR.out.mono ?_; rintro e w6 ⟨rfl, hb6⟩; have y1 := pw_cell_below hb6 dc1; have y2 := pw_cell_below hb6 dc2; have y3 := pw_cell_below hb6 dc3; replace hb6 := Aside0.mk hb6)
                    clear dc0 dc1 dc2 dc3 dc4
                    have hT6 := Aside0.mk (hT.out w6 hb6.out)
                    go_wp2_with (go_at_call 7; refine hT6.out.mono ?_; rintro e w7 ⟨rfl, hd7⟩; replace hd7 := Aside0.mk hd7)
                    go_meet
                    case rel => exact ⟨A2, c2, l, L, h, m, rfl, rfl, rfl, ⟨hI1.out.step (below_step hb6.out hd7.out.below)⟩⟩
                  · obtain ⟨pn, hpn⟩ : ∃ pn : Nat, x.f1 = (pn : Int) := ⟨x.f1.toNat, by omega⟩
                    have hR := rnote_yes A2 c2 l x.f1 x.f2 A3 c3 x.f3 W1 hI1.out.cx hll.out (fun y hy => (hI1.out.rel.one.ok y hy).1) (hu.out W1 hI1.out.bel) hxu.out.1 hall (by omega) (by omega) (by omega) (by omega)
                    obtain ⟨mk, hmk, hrel⟩ := hI1.out.rel.noteL pn x.f2 x.f3 hall (by omega) (by omega) (by omega)
                    rw [← hpn] at hrel
                    have hT := fun w6 (k : Below W1.heap.size W1 w6) => note_yes g L pn x.f2 A3 c3 x.f3 mk w6 (blk_below hI1.out.blk k) hI1.out.rel.len (Kd.C_below (hu.out W1 hI1.out.bel) k) h3.out hxu.out.2 hmk (by omega) (by omega) (by omega)
                    rw [← hpn] at hT
                    replace hT := Aside0.mk hT
                    replace hR := Aside0.mk hR
                    replace hrel := Aside0.mk hrel
                    replace hall := Aside0.mk hall
                    replace hpn := Aside0.mk hpn
                    clear hmk hbd
                    go_upto_region 22 with (go_at_call 16; refine hR.out.mono ?_; rintro e w6 ⟨A6, c6, rfl, hC6, hA6, hb6⟩; have y1 := pw_cell_below hb6 dc1; have y2 := pw_cell_below hb6 dc2; have y3 := pw_cell_below hb6 dc3; replace hb6 := Aside0.mk hb6; replace hC6 := Aside0.mk hC6; replace hA6 := Aside0.mk hA6)
                    clear dc0 dc1 dc2 dc3 dc4
                    have hT6 := Aside0.mk (hT.out w6 hb6.out)
                    go_wp2_with (go_at_call 7; refine hT6.out.mono ?_; rintro e w7 ⟨rfl, hg7, hf7⟩; replace hg7 := Aside0.mk hg7; replace hf7 := Aside0.mk hf7)
                    go_meet
                    case rel =>
                      have hlt := blk_lt hI1.out.blk
                      refine ⟨A6, c6, _, _, h, m, rfl, rfl, rfl, ⟨⟨hg7.out, hrel.out, hI1.out.u03.note x.f1 x.f2 x.f3 hall.out, ?_, ?_, ?_, C_farN hC6.out hf7.out (fun ad ha e => by have := hA6.out ad ha; omega), fun ad ha e => (by have := hA6.out ad ha; omega), far_bel (below_step hI1.out.bel hb6.out) hf7.out hI1.out.lo, hI1.out.lo⟩⟩⟩
                      · have := noteR_length (newN x.f1 x.f2 x.f3) l; have := hI1.out.len; omega
                      · rw [count_note _ _ _ _ _ (by omega)]; exact hI1.out.hits
                      · rw [count_note _ _ _ _ _ (by omega)]; exact hI1.out.miss
          · have q0 : (x.f0 == 0) = false := beq_eq_false_iff_ne.mpr (by omega)
            have q1 : (x.f0 == 1) = false := beq_eq_false_iff_ne.mpr (by omega)
            by_cases h23 : x.f0 = 2 ∨ x.f0 = 3
            · have q23 : (x.f0 == 2) = true ∨ ((x.f0 == 2) = false ∧ (x.f0 == 3) = true) := by
                by_cases h0 : x.f0 = 2
                · exact .inl (beq_iff_eq.mpr h0)
                · exact .inr ⟨beq_eq_false_iff_ne.mpr h0, beq_iff_eq.mpr (by omega)⟩
              clear h01 h23
              rcases q23 with q2 | ⟨q2, q3⟩
              all_goals
                as_aux_lemma =>
                  obtain ⟨u, hue⟩ : ∃ u, u = x.f3.headD 0 := ⟨_, rfl⟩
                  have hF := fun w6 (k : Below W1.heap.size W1 w6) => first_calls A3 c3 x.f3 w6 (Kd.C_below (hu.out W1 hI1.out.bel) k) hxu.out.1
                  rw [← hue] at hF
                  replace hF := Aside0.mk hF
                  have hRF := fun w6 (k : Below W1.heap.size W1 w6) => rfindW A2 c2 l x.f1 u w6 (Kd.C_below hI1.out.cx k) hll.out
                  obtain ⟨z, hz⟩ : ∃ z, z = findW l x.f1 u := ⟨_, rfl⟩
                  rw [← hz] at hRF
                  replace hRF := Aside0.mk hRF
                  have hng : gd ≠ g := fun e => by have := hg.out; omega
                  clear hue
                  by_cases hf : 0 ≤ x.f1 ∧ findOk L x.f1.toNat u
                  · obtain ⟨fr, hfr, hw, h0⟩ := hI1.out.rel.find_yes x.f1.toNat u hf.2
                    have ezf : z = fr := by rw [hz, ← hw]; congr 1; have := hf.1; omega
                    subst ezf
                    have hT := Aside0.mk (fun w6 (k : Below W1.heap.size W1 w6) => (hI1.out.below k).find_yes x.f1 u hf.1 hf.2 z hfr (blk_below hD1.out k) hng)
                    have f1 : decide (z < 0) = false := decide_eq_false (by omega)
                    have f2 : decide (z ≥ 0) = true := decide_eq_true (by omega)
                    have hmx : (if 0 < z then z else 0) = z := by
                      by_cases h1 : 0 < z
                      · rw [if_pos h1]
                      · rw [if_neg h1]; omega
                    replace hz := Aside0.mk hz
                    clear hf hfr hw h0 hng
                    go_upto_region 27 with (fail)
                    go_region_held3 (fun w' => w'.cell? ⟨gd, 1, none⟩ = some (.int .i64 x.f1) ∧ w'.cell? ⟨gd, 3, none⟩ = some (.slice A3 x.f3.length c3))
                      (first | go_keep | (go_split_ands; refine ⟨?_, ?_⟩; (exact dc1); (exact dc3)))
                      (first | (go_at_call 18; refine (hF.out _ (by repeat (first | exact Below.refl _ _ | refine pw_below_drewN ?_ _ | refine below_drew ?_))).mono ?_; rintro e w6 ⟨rfl, rfl⟩) | (go_at_call 17; refine (hRF.out _ (by repeat (first | exact Below.refl _ _ | refine pw_below_drewN ?_ _ | refine below_drew ?_))).mono ?_; rintro e w7 ⟨rfl, rfl⟩))
                    go_upto_region 28 with (fail)
                    go_region_held3 (fun w' => w'.cell? ⟨gd, 1, none⟩ = some (.int .i64 x.f1) ∧ w'.cell? ⟨gd, 3, none⟩ = some (.slice A3 x.f3.length c3))
                      (first | go_keep | (go_split_ands; refine ⟨?_, ?_⟩; (exact ca); (exact cb)))
                      (first | (go_at_call 18; refine (hF.out _ (by repeat (first | exact Below.refl _ _ | refine pw_below_drewN ?_ _ | refine below_drew ?_))).mono ?_; rintro e w6 ⟨rfl, rfl⟩) | (go_at_call 8; refine (hT.out _ (by repeat (first | exact Below.refl _ _ | refine pw_below_drewN ?_ _ | refine below_drew ?_))).mono ?_; rintro e w7 ⟨rfl, hI7, hD7⟩; have ca : w7.cell? ⟨gd, 1, none⟩ = some (.int .i64 x.f1) := blk_cell hD7 1; have cb : w7.cell? ⟨gd, 3, none⟩ = some (.slice A3 x.f3.length c3) := blk_cell hD7 3; replace hI7 := Aside0.mk hI7; clear hD7))
                    clear dc0 dc1 dc2 dc3 dc4 ca cb
                    go_wp2
                    go_meet
                    case rel => exact ⟨A2, c2, l, _, wrap64 (h + 1), m, rfl, rfl, rfl, hI7⟩
                  · have ez : z = -1 := by rw [hz]; exact hI1.out.rel.find_no hI1.out.u03 x.f1 u hf
                    subst ez
                    have hT := Aside0.mk (fun w6 (k : Below W1.heap.size W1 w6) => (hI1.out.below k).find_no x.f1 u hf (blk_below hD1.out k) hng)
                    replace hz := Aside0.mk hz
                    clear hf hng
                    go_upto_region 27 with (fail)
                    go_region_held3 (fun w' => w'.cell? ⟨gd, 1, none⟩ = some (.int .i64 x.f1) ∧ w'.cell? ⟨gd, 3, none⟩ = some (.slice A3 x.f3.length c3))
                      (first | go_keep | (go_split_ands; refine ⟨?_, ?_⟩; (exact dc1); (exact dc3)))
                      (first | (go_at_call 18; refine (hF.out _ (by repeat (first | exact Below.refl _ _ | refine pw_below_drewN ?_ _ | refine below_drew ?_))).mono ?_; rintro e w6 ⟨rfl, rfl⟩) | (go_at_call 17; refine (hRF.out _ (by repeat (first | exact Below.refl _ _ | refine pw_below_drewN ?_ _ | refine below_drew ?_))).mono ?_; rintro e w7 ⟨rfl, rfl⟩))
                    go_upto_region 28 with (fail)
                    go_region_held3 (fun w' => w'.cell? ⟨gd, 1, none⟩ = some (.int .i64 x.f1) ∧ w'.cell? ⟨gd, 3, none⟩ = some (.slice A3 x.f3.length c3))
                      (first | go_keep | (go_split_ands; refine ⟨?_, ?_⟩; (exact ca); (exact cb)))
                      (first | (go_at_call 18; refine (hF.out _ (by repeat (first | exact Below.refl _ _ | refine pw_below_drewN ?_ _ | refine below_drew ?_))).mono ?_; rintro e w6 ⟨rfl, rfl⟩) | (go_at_call 8; refine (hT.out _ (by repeat (first | exact Below.refl _ _ | refine pw_below_drewN ?_ _ | refine below_drew ?_))).mono ?_; rintro e w7 ⟨rfl, hI7, hD7⟩; have ca : w7.cell? ⟨gd, 1, none⟩ = some (.int .i64 x.f1) := blk_cell hD7 1; have cb : w7.cell? ⟨gd, 3, none⟩ = some (.slice A3 x.f3.length c3) := blk_cell hD7 3; replace hI7 := Aside0.mk hI7; clear hD7))
                    clear dc0 dc1 dc2 dc3 dc4 ca cb
                    go_wp2
                    go_meet
                    case rel => exact ⟨A2, c2, l, _, h, wrap64 (m + 1), rfl, rfl, rfl, hI7⟩
            · have q2 : (x.f0 == 2) = false := beq_eq_false_iff_ne.mpr (by omega)
              have q3 : (x.f0 == 3) = false := beq_eq_false_iff_ne.mpr (by omega)
              by_cases hq4 : x.f0 = 4
              · have q4 : (x.f0 == 4) = true := beq_iff_eq.mpr hq4
                clear h01 h23 hq4
                as_aux_lemma =>
                  have hR := rflush_calls A2 c2 l A4 c4 x.f4 W1 hI1.out.cx hll.out (hp.out W1 hI1.out.bel) hxp.out.1
                  obtain ⟨hrel, hcn⟩ := hI1.out.rel.flushL x.f4
                  have hcx := flushRL_length x.f4 l
                  obtain ⟨l5, hl5⟩ : ∃ l5, l5 = flushRL l x.f4 := ⟨_, rfl⟩
                  rw [hcn, ← hl5] at hR
                  rw [← hl5] at hrel hcx
                  have hu5 := hI1.out.u03.flushL x.f4
                  rw [← hl5] at hu5
                  have hlt := blk_lt hI1.out.blk
                  have hT := Aside0.mk (fun w6 (k : Below W1.heap.size W1 w6) => flush_calls g L A4 c4 x.f4 w6 (blk_below hI1.out.blk k) hI1.out.rel.len (fun W' hW' => hp.out W' (far_bel (below_step hI1.out.bel k) hW' hI1.out.lo)) h4.out hxp.out.2)
                  replace hR := Aside0.mk hR
                  replace hrel := Aside0.mk hrel
                  replace hu5 := Aside0.mk hu5
                  replace hcx := Aside0.mk hcx
                  replace hlt := Aside0.mk hlt
                  clear hcn hl5
                  go_upto_region 36 with (go_at_call 19; refine hR.out.mono ?_; rintro e w6 ⟨A6, c6, rfl, hC6, hA6, hb6⟩; have y4 := pw_cell_below hb6 dc4; replace hb6 := Aside0.mk hb6; replace hC6 := Aside0.mk hC6; replace hA6 := Aside0.mk hA6)
                  clear dc0 dc1 dc2 dc3 dc4
                  have hT6 := Aside0.mk (hT.out w6 hb6.out)
                  generalize flushN L x.f4 = many at hT6 ⊢
                  go_wp2_with (go_at_call 13; refine hT6.out.mono ?_; rintro e w7 ⟨rfl, hg7, hf7⟩; replace hg7 := Aside0.mk hg7; replace hf7 := Aside0.mk hf7)
                  go_meet
                  case rel =>
                    have hA7 : ∀ ad, A6 = some ad → ad.block ≠ g := fun ad ha e => by
                      rcases hA6.out with h1 | h1
                      · exact hI1.out.ax ad (by rw [← h1]; exact ha) e
                      · have := h1 ad ha; have := hlt.out; omega
                    refine ⟨A6, c6, l5, _, h, m, rfl, rfl, rfl, ⟨⟨hg7.out, hrel.out, hu5.out, ?_, ?_, ?_, C_farN hC6.out hf7.out hA7, hA7, far_bel (below_step hI1.out.bel hb6.out) hf7.out hI1.out.lo, hI1.out.lo⟩⟩⟩
                    · have := hI1.out.len; have := hcx.out; omega
                    · rw [count_flush _ _ (by omega)]; exact hI1.out.hits
                    · rw [count_flush _ _ (by omega)]; exact hI1.out.miss
              · have q4 : (x.f0 == 4) = false := beq_eq_false_iff_ne.mpr hq4
                clear h01 h23 hq4
                as_aux_lemma =>
                  by_cases hz0 : x.f2 = 0
                  · have b5 : (x.f2 == 0) = true := beq_iff_eq.mpr hz0
                    replace hz0 := Aside0.mk hz0
                    have hT := Aside0.mk (clear_calls g L W1 hI1.out.blk hI1.out.rel.len)
                    go_wp2_with (go_at_call 14; refine hT.out.mono ?_; rintro e w7 ⟨rfl, hg7, hf7⟩; replace hg7 := Aside0.mk hg7; replace hf7 := Aside0.mk hf7)
                    go_meet
                    case rel =>
                      have hlL := hI1.out.rel.len
                      refine ⟨none, 0, [], _, h, m, rfl, rfl, rfl, ⟨⟨hg7.out, RelT.clear hlL, fun y hy => (by cases hy), Nat.zero_le _, ?_, ?_, (Kd.R_reads' (Kd.R_nil kN 62 _ 0 (fun _ => True))).2.2, fun ad ha => (by cases ha), far_bel hI1.out.bel hf7.out hI1.out.lo, hI1.out.lo⟩⟩⟩
                      · rw [count_clr _ _ (by omega) hlL]; exact hI1.out.hits
                      · rw [count_clr _ _ (by omega) hlL]; exact hI1.out.miss
                  · have b5 : (x.f2 == 0) = false := beq_eq_false_iff_ne.mpr hz0
                    replace hz0 := Aside0.mk hz0
                    go_wp2
                    go_meet
                    case rel => exact ⟨A2, c2, l, L, h, m, rfl, rfl, rfl, ⟨hI1.out.step (Below.refl _ _)⟩⟩
        case rest =>
          as_aux_lemma =>
            obtain ⟨A5, c5, l5, L5, h5, m5, rfl, rfl, rfl, HI5⟩ := hcut
            clear hI1 hD1 dc0 dc1 dc2 dc3 dc4 hll hxu hxp hu hp h3 h4 hsz
            have hll5 := Aside0.mk (show l5.length ≤ 100000 by have := HI5.out.len; have := hi100.out; omega)
            have hfr := HI5.out.rel.frames
            have hH := Aside0.mk (hits_calls g L5 h5 wc HI5.out.blk HI5.out.hits)
            have hM := Aside0.mk (fun w (k : Below wc.heap.size wc w) => misses_calls g L5 m5 w (blk_below HI5.out.blk k) HI5.out.miss)
            have hFr := fun w (k : Below wc.heap.size wc w) => frames_calls g L5 w (blk_below HI5.out.blk k) HI5.out.rel.len
            rw [hfr] at hFr
            have hRF := Aside0.mk (fun w (k : Below wc.heap.size wc w) => rframes_calls A5 c5 l5 w (Kd.C_below HI5.out.cx k) hll5.out)
            have hfl : (framesR l5).length < 4611686018427387904 := by
              have := frK_length l5 96
              have e : frK l5 96 = framesR l5 := rfl
              rw [e] at this
              omega
            have hsm := ints_same (framesR l5) hfl
            generalize framesR l5 = fs at hFr hRF hsm
            replace hFr := Aside0.mk hFr
            replace hsm := Aside0.mk hsm
            clear hfr hfl
            go_wp2_with (first
              | (go_at_call 9; refine hH.out.mono ?_; rintro e w6 ⟨rfl, hd6⟩; replace hd6 := Aside0.mk hd6.below)
              | (go_at_call 10; refine (hM.out _ hd6.out).mono ?_; rintro e w7 ⟨rfl, hd7⟩; replace hd7 := Aside0.mk (below_step hd6.out hd7.below))
              | (go_at_call 15; refine (hFr.out _ hd7.out).mono ?_; rintro e w8 ⟨A8, c8, rfl, hC8, hl8, hb8⟩; replace hb8 := Aside0.mk (below_step hd7.out hb8); replace hC8 := Aside0.mk hC8; replace hl8 := Aside0.mk hl8)
              | (go_at_call 21; refine (hRF.out _ hb8.out).mono ?_; rintro e w9 ⟨v9, rfl, hR9, hb9⟩; replace hC8 := Aside0.mk (Kd.C_below hC8.out hb9); replace hb9 := Aside0.mk (below_step hb8.out hb9); obtain ⟨A9, c9, e9⟩ := Kd.R_slice hR9; subst e9; have hR9' := Aside0.mk (Kd.R_reads' hR9); clear hR9)
              | (go_at_call 20; refine (gunnyref02_Ints.calls _ A8 c8 fs A9 c9 fs true _ hC8.out hl8.out hR9'.out.2.2 hR9'.out.2.1 hsm.out).mono ?_; rintro e w10 ⟨rfl, hd10⟩; replace hd10 := Aside0.mk (below_step hb9.out hd10.below)))
            go_roundg k1
            case measure => omega
            case rel => exact ⟨i + 1, A5, c5, l5, L5, h5, m5, rfl, rfl, rfl, by first | rw [ws.out] | rfl, ⟨by have := HK.out; omega⟩, ⟨HI5.out.below hd10.out⟩⟩

theorem plays_walk (W : World) (A : Option Addr) (c : Nat) (ls : List S36) (hC : Kd.C k36 W A ls.length ls) (hc : ls.length ≤ c) (hm : ls.length ≤ maxLen) (hwf : ∀ x ∈ ls, True) :
    Calls Try.prog 5 #[.slice A ls.length c] W fun e w' => e = .returned (.bool true) ∧ Below W.heap.size W w' := plays_law A c ls W hC hc (Nat.lt_of_le_of_lt hm (by decide))
end Go.Proofs.Ytfmkjdbhijeejaa.Hand
