/- ClockPlays, walked (written by genE4.py). -/
import Derived.Test.YtmmnkanijdbgpaaE3
import Derived.Test.YtmmnkanijdbgpaaC4
import Derived.Deep.RegionLaw
import Derived.Deep.RegionHeld3
import Derived.Deep.DeepCutAuto
import Derived.Deep.CutBlock
namespace Go.Proofs.Ytmmnkanijdbgpaa.Hand
set_option linter.unusedVariables false
set_option linter.unusedSimpArgs false
open Go.RowKit Go.Proofs.Ytmmnkanijdbgpaa.R Go.Proofs.YtmmnkanijdbgpaaW.PrintWords Go.Proofs.YtmmnkanijdbgpaaW.PrintLast Go.Proofs.YtmmnkanijdbgpaaW.PrintMore

/-- What the loop keeps. -/
structure LI (W : World) (g b : Nat) (L : List Int) (w : World) : Prop where
  gl : GL L
  cs : CS w g L
  ps : PS w b (pOf L)
  bel : Below W.heap.size W w
  lo : W.heap.size ≤ g ∧ W.heap.size ≤ b ∧ g ≠ b
theorem LI.below {W : World} {g b : Nat} {L : List Int} {w w' : World} (h : LI W g b L w) (k : Below w.heap.size w w') : LI W g b L w' :=
  ⟨h.gl, blk_below h.cs k, blk_below h.ps k, below_step h.bel k, h.lo⟩
theorem newc (w : World) : Calls Try.prog 7 #[] w fun e w' => ∃ g, e = .returned (.pointer (some ⟨g, 0, none⟩)) ∧ CS w' g zeros ∧ w.heap.size ≤ g ∧ Below w.heap.size w w' :=
  (new_calls w).mono (by
    rintro e w' ⟨rfl, rfl⟩
    exact ⟨_, rfl, blk_new w _, Nat.le_refl _, below_alloc (Below.refl _ w) _⟩)
theorem info44 : (Try.prog.info? 44).map (·.size) = some 5 := by kernel_rfl
theorem boxD_one (d : S44) (A3 : Option Addr) (c3 : Nat) (A4 : Option Addr) (c4 : Nat) : (boxD d A3 c3 A4 c4).all (·.oneCell') = true := by
  unfold boxD
  simp [Value.oneCell']
theorem setRow_44 {w : World} {g : Nat} {C R : Array Value} {T : TypeId} (h : w.heap[g]? = some (.cells C T (0, 0))) : (w.setRow g R).heap[g]? = some (.cells R T (0, 0)) := by
  show (w.heap.modify g _)[g]? = _
  rw [Array.getElem?_modify, if_pos rfl, h]
  rfl
section
variable {ops : Array Oper} {rest : List Oper} {o : Oper} {a : Act} {w : World} {Q : Exit → Act → World → Prop}
theorem gate_st44 {x y : Operand} (h : o.op = .store 44 x y) (k : wpList Try.prog ops Q (o :: rest) a w) : wpList Try.prog ops Q (o :: rest) a w := k
theorem wl_st44 (hgd : o.guard = none) (x y : Operand) (ho : o.op = .store 44 x y) {g : Nat} {C R : Array Value} (hx : a.eval x = .pointer (some ⟨g, 0, none⟩)) (hy : a.eval y = .agg R) (h : w.heap[g]? = some (.cells C 44 (0, 0))) (hC : C.size = 5) (hR : R.size = 5) (h1 : R.all (·.oneCell') = true)
    (k : ∀ w', w'.heap[g]? = some (.cells R 44 (0, 0)) → Far (fun i => i = g) w w' → wpList Try.prog ops Q rest (a.put o.dst undef) w') : wpList Try.prog ops Q (o :: rest) a w :=
  wpList_plain hgd fun _ hK => wp_store_row 44 x y ho g R hx hy 44 C h (by rw [info44, hR]) (by rw [hC, hR]) h1 (hK _ _ (k _ (setRow_44 h) (setRow_far _ _ _)))
end
theorem cell_bel {w w' : World} (h : Below w.heap.size w w') {p : Addr} {u : Value} (hp : w.cell? p = some u) : w'.cell? p = some u := by
  rw [← hp]
  exact World.cell?_of_block (h.block _ (World.block_lt_of_cell? w _ hp))
theorem bool_lt {w : World} {A : Option Addr} {n : Nat} {xs : List Bool} (h : Kd.C Kd.bool w A n xs) : ∀ ad, A = some ad → 0 < n → ad.block < w.heap.size := by
  intro ad ha hn
  obtain ⟨ad', ha', hc⟩ := h.2.2 hn
  obtain rfl : ad = ad' := by rw [ha] at ha'; exact Option.some.inj ha'
  have hl : 0 < xs.length := by have := h.1; omega
  obtain ⟨cs, h1, h2, h3⟩ := hc 0 xs[0] (by simp [hl])
  have hcs : 0 < cs.length := by rw [h2]; exact Nat.zero_lt_one
  have hcell := h3 0 cs[0] (by simp [hcs])
  have hb : (ad.add (0 * Kd.bool.sz + 0)).block = ad.block := by simp [Addr.add]
  rw [← hb]
  exact World.block_lt_of_cell? w _ hcell
set_option maxHeartbeats 32000000 in
set_option maxRecDepth 100000 in
theorem plays_law (W : World) (A : Option Addr) (c : Nat) (ls : List S44) (hC : Kd.C k44 W A ls.length ls) (hc : ls.length ≤ c) :
    Calls Try.prog 5 #[.slice A ls.length c] W fun e w' => e = .returned (.bool true) ∧ Below W.heap.size W w' := by
  obtain ⟨gr, hgr, hgb⟩ := great_some ls
  have hG := Aside0.mk (gunnylaw35_great.calls (2 * ls.length + 2) A c ls gr W hC hc hgr)
  replace hgb := Aside0.mk hgb
  replace hC := Aside0.mk hC
  clear hgr hc
  cases gr with
  | true =>
    go_enter Try.func5, Try.ntmps5
    go_wp2_with (first
  | (go_at_call 13; refine (page_nil _ _).mono ?_; rintro e w1 ⟨rfl, h1⟩; replace h1 := h1.symm; subst h1)
  | (go_at_call 14; refine (frame_nil _ _).mono ?_; rintro e w1 ⟨rfl, h1⟩; replace h1 := h1.symm; subst h1)
  | (go_at_call 10; refine (turn_nilc _).mono ?_; rintro e w1 ⟨rfl, h1⟩; replace h1 := h1.symm; subst h1)
  | (go_at_call 8; refine (add_nil _ _ _).mono ?_; rintro e w1 ⟨rfl, h1⟩; replace h1 := h1.symm; subst h1)
  | (go_at_call 15; refine (rem_nil _ _).mono ?_; rintro e w1 ⟨rfl, h1⟩; replace h1 := h1.symm; subst h1)
  | (go_at_call 12; refine (len_nil _).mono ?_; rintro e w1 ⟨rfl, h1⟩; replace h1 := h1.symm; subst h1)
  | (go_at_call 9; refine (hand_nil _).mono ?_; rintro e w1 ⟨rfl, h1⟩; replace h1 := h1.symm; subst h1)
  | (go_at_call 16; refine hG.out.mono ?_; rintro e w0 ⟨rfl, hd⟩; replace hd := Aside0.mk hd.below)
      | (go_at_call 6; refine (lives_calls _).mono ?_; rintro e w9 ⟨rfl, hb9⟩; replace hb9 := Aside0.mk hb9))
    go_returns
    exact ⟨rfl, below_step hd.out hb9.out⟩
  | false =>
    have hl := Aside0.mk (hgb.out rfl)
    clear hgb
    have hz := zv41
    have hne := zne
    have hpn := Aside0.mk (fun w : World => (blk_new w (.cells (ints zer97) 41 (0, 0)) : PS (w.alloc (.cells (ints zer97) 41 (0, 0))) w.heap.size zer97))
    go_enter Try.func5, Try.ntmps5
    go_upto_region 9 with (first
  | (go_at_call 13; refine (page_nil _ _).mono ?_; rintro e w1 ⟨rfl, h1⟩; replace h1 := h1.symm; subst h1)
  | (go_at_call 14; refine (frame_nil _ _).mono ?_; rintro e w1 ⟨rfl, h1⟩; replace h1 := h1.symm; subst h1)
  | (go_at_call 10; refine (turn_nilc _).mono ?_; rintro e w1 ⟨rfl, h1⟩; replace h1 := h1.symm; subst h1)
  | (go_at_call 8; refine (add_nil _ _ _).mono ?_; rintro e w1 ⟨rfl, h1⟩; replace h1 := h1.symm; subst h1)
  | (go_at_call 15; refine (rem_nil _ _).mono ?_; rintro e w1 ⟨rfl, h1⟩; replace h1 := h1.symm; subst h1)
  | (go_at_call 12; refine (len_nil _).mono ?_; rintro e w1 ⟨rfl, h1⟩; replace h1 := h1.symm; subst h1)
  | (go_at_call 9; refine (hand_nil _).mono ?_; rintro e w1 ⟨rfl, h1⟩; replace h1 := h1.symm; subst h1)
  | (go_at_call 16; refine hG.out.mono ?_; rintro e w0 ⟨rfl, hd⟩; replace hd := Aside0.mk hd.below))
    clear hG
    go_upto_region 10 with (go_at_call 7; refine (newc _).mono ?_; rintro e w1 ⟨g, rfl, hcs1, hg1, hb1⟩; replace hcs1 := Aside0.mk hcs1; replace hg1 := Aside0.mk hg1; replace hb1 := Aside0.mk hb1)
    go_upto_region 11 with (first | (go_at_call 17; refine (rnew_calls _).mono ?_; rintro e w2 ⟨rfl, hb2⟩; replace hb2 := Aside0.mk hb2) | ((with_reducible refine gate_st rfl ?_); refine wl_st rfl _ _ rfl rfl rfl (hpn.out _) lz97 (newP_length 96 (by omega)) ?_; intro w3 hp3 hf3; replace hp3 := Aside0.mk hp3; replace hf3 := Aside0.mk hf3))
    obtain ⟨b, hbe⟩ : ∃ b, b = w2.heap.size := ⟨_, rfl⟩
    have hI := Aside0.mk (show LI W g b zeros w3 from by
      have hbb : Below w1.heap.size w1 w3 := (below_alloc hb2.out _).trans (hf3.out.below (by rw [World.size_alloc]; have := hb2.out.size; omega) (fun i e => by rw [e]; exact hb2.out.size))
      have hgl := blk_lt hcs1.out
      have h2 := hb2.out.size
      have h0 := hd.out.size
      have h1 := hg1.out
      exact ⟨GL_zeros, blk_below hcs1.out hbb, by rw [hbe, pOf_zeros]; exact hp3.out, below_step (below_step hd.out hb1.out) hbb, by omega, by omega, by omega⟩)
    rw [← hbe]
    clear hbe hp3 hf3 hb2 hcs1 hg1 hb1
    have hzl := Aside0.mk (show ((0 : Int)) = zeros.getD 97 0 by decide +kernel)
    go_wp2
    go_loopg [12, 13] ls.length (fun kq v12 v13 w' => ∃ (i : Nat) (L : List Int) (q : Int), v12 = .int .i64 q ∧ v13 = .int .i64 (i : Int) ∧ Aside0 (q = L.getD 97 0) ∧ Aside0 (i + kq = ls.length) ∧ Aside0 (LI W g b L w'))
    case atStart => exact ⟨0, zeros, 0, rfl, rfl, hzl, ⟨by omega⟩, hI⟩
    case round =>
      clear hzl hI
      obtain ⟨i, L, q, rfl, rfl, HQ, HK, HI⟩ := hrel
      cases gk with
      | zero =>
        have e0 : decide ((i : Int) < (ls.length : Int)) = false := decide_eq_false (by have := HK.out; omega)
        have e0' : decide (i < ls.length) = false := decide_eq_false (by have := HK.out; omega)
        go_wp2_with (go_at_call 6; refine (lives_calls _).mono ?_; rintro e w9 ⟨rfl, hb9⟩; replace hb9 := Aside0.mk hb9)
        go_returns
        exact ⟨rfl, below_step HI.out.bel hb9.out⟩
      | succ k =>
        have hi : i < ls.length := by have := HK.out; omega
        have e1 : decide ((i : Int) < (ls.length : Int)) = true := decide_eq_true (by omega)
        have e2 : decide (i < ls.length) = true := decide_eq_true hi
        obtain ⟨ad, A3, c3, A4, c4, rfl, k0, k1, k2, k3, k4, l3, C3, l4, C4⟩ := at_T44 hC.out (i : Int) (by omega) (by omega)
        have hlx := hl.out.2 i hi
        obtain ⟨x, hx⟩ : ∃ x, x = rd_T44 ls (i : Int) := ⟨_, rfl⟩
        rw [← hx] at k0 k1 k2 k3 k4 l3 C3 l4 C4 hlx
        clear hx
        rw [Int.toNat_natCast] at k0 k1 k2 k3 k4
        replace k0 := cell_bel HI.out.bel k0
        replace k1 := cell_bel HI.out.bel k1
        replace k2 := cell_bel HI.out.bel k2
        replace k3 := cell_bel HI.out.bel k3
        replace k4 := cell_bel HI.out.bel k4
        have i0 : (0 : Int) ≤ (i : Int) := by omega
        have hi100 := Aside0.mk (show i < 100 by have := hl.out.1; omega)
        have hlt3 := Aside0.mk (bool_lt C3)
        replace C3 := Aside0.mk (Kd.C_below C3 HI.out.bel)
        replace C4 := Aside0.mk (Kd.C_below C4 HI.out.bel)
        replace l3 := Aside0.mk l3
        replace l4 := Aside0.mk l4
        replace hlx := Aside0.mk hlx
        have hz44 := Aside0.mk (fun w : World => (blk_new w (.cells #[.int .i64 0, .int .i64 0, .int .i64 0, .slice none 0 0, .slice none 0 0] 44 (0, 0))))
        go_upto_region 16 with (first | ((with_reducible refine gate_st44 rfl ?_); refine wl_st44 (R := boxD x A3 c3 A4 c4) rfl _ _ rfl rfl rfl (hz44.out _) rfl rfl (boxD_one ..) ?_; intro w5 hD5 hf5; replace hD5 := Aside0.mk hD5; replace hf5 := Aside0.mk hf5))
        have hb5 := Aside0.mk (show Below wr.heap.size wr w5 from (below_alloc (Below.refl _ wr) _).trans (hf5.out.below (by rw [World.size_alloc]; omega) (fun i e => by rw [e]; exact Nat.le_refl _)))
        obtain ⟨p, hpe⟩ : ∃ p, p = wr.heap.size := ⟨_, rfl⟩
        rw [← hpe] at hD5
        rw [← hpe]
        have hI5 := Aside0.mk (HI.out.below hb5.out)
        have hlts := Aside0.mk (show g < p ∧ b < p ∧ W.heap.size ≤ p from ⟨by rw [hpe]; exact blk_lt HI.out.cs, by rw [hpe]; exact blk_lt HI.out.ps, by rw [hpe]; exact HI.out.bel.size⟩)
        replace C3 := Aside0.mk (Kd.C_below C3.out hb5.out)
        replace C4 := Aside0.mk (Kd.C_below C4.out hb5.out)
        have hPl := Aside0.mk (pOf_length HI.out.gl.len)
        have hLl := Aside0.mk HI.out.gl.len
        clear hpe k0 k1 k2 k3 k4 hf5 hb5 hz44 HI
        obtain ⟨y0, y1, y2, y3, y4⟩ := boxD_cells x A3 c3 A4 c4 hD5.out
        go_upto_block 2 with (fail)
        go_cut [12, 15] (fun v12 v15 wc => ∃ (L2 : List Int) (q2 : Int), v12 = .int .i64 q2 ∧ v15 = .bool true ∧ Aside0 (q2 = L2.getD 97 0) ∧ Aside0 (LI W g b L2 wc) ∧ Aside0 (wc.heap[p]? = some (DB x A3 c3 A4 c4)))
        case first =>
          by_cases h01 : x.f0 = 0 ∨ x.f0 = 1
          · have q01 : (x.f0 == 0) = true ∨ ((x.f0 == 0) = false ∧ (x.f0 == 1) = true) := by
              by_cases h0 : x.f0 = 0
              · exact .inl (beq_iff_eq.mpr h0)
              · exact .inr ⟨beq_eq_false_iff_ne.mpr h0, beq_iff_eq.mpr (by omega)⟩
            clear h01
            cases hok : addOk L x.f1 x.f2 with
            | true =>
              rcases q01 with q0 | ⟨q0, q1⟩
              all_goals
                as_aux_lemma =>
                  have hRA := radd_calls (pOf L) hPl.out x.f1 x.f2 w5
                  rw [raddP_of hLl.out, raddOk_of hLl.out, hok] at hRA
                  have hAD := fun (w : World) (h : CS w g L) => add_calls g L hLl.out x.f1 x.f2 w h
                  rw [hok] at hAD
                  have hm2 := many_add hI5.out.gl x.f1 x.f2
                  rw [hok, ← HQ.out] at hm2
                  have hgl2 := Aside0.mk (GL_add hI5.out.gl x.f1 x.f2)
                  generalize hL2 : addL L x.f1 x.f2 = L2 at hRA hAD hm2 hgl2
                  obtain ⟨P, hP⟩ : ∃ P, P = pOf L := ⟨_, rfl⟩
                  obtain ⟨P2, hP2⟩ : ∃ P2, P2 = pOf L2 := ⟨_, rfl⟩
                  rw [← hP] at hRA
                  rw [← hP2] at hRA
                  have hp5 := Aside0.mk (show PS w5 b P by rw [hP]; exact hI5.out.ps)
                  have hPl2 := Aside0.mk (show P.length = 97 by rw [hP]; exact hPl.out)
                  have hP2l := Aside0.mk (show P2.length = 97 by rw [hP2]; exact pOf_length hgl2.out.len)
                  replace hRA := Aside0.mk hRA
                  replace hAD := Aside0.mk hAD
                  replace hm2 := Aside0.mk hm2
                  replace hP := Aside0.mk hP
                  replace hP2 := Aside0.mk hP2
                  clear hL2 hok
                  go_upto_region 22 with (first | ((with_reducible refine gate_ld rfl ?_); refine wl_ld rfl _ rfl rfl hp5.out hPl2.out ?_) | (go_at_call 18; refine hRA.out.mono ?_; rintro e w6 ⟨rfl, hb6⟩; replace hb6 := Aside0.mk hb6) | ((with_reducible refine gate_st rfl ?_); refine wl_st rfl _ _ rfl rfl rfl (hpn.out _) lz97 hP2l.out ?_; intro w7 hp7 hf7; replace hp7 := Aside0.mk hp7; replace hf7 := Aside0.mk hf7))
                  have hb7 := Aside0.mk (show Below w5.heap.size w5 w7 from (below_alloc hb6.out _).trans (hf7.out.below (by rw [World.size_alloc]; have := hb6.out.size; omega) (fun i e => by rw [e]; exact hb6.out.size)))
                  have hpb7 := Aside0.mk (show PS w7 b P from blk_below hp5.out hb7.out)
                  have hcs7 := Aside0.mk (show CS w7 g L from blk_below hI5.out.cs hb7.out)
                  have hD7 := Aside0.mk (blk_below hD5.out hb7.out)
                  have hbl7 := Aside0.mk (below_step hI5.out.bel hb7.out)
                  clear y0 y1 y2 y3 y4
                  go_upto_region 23 with (first | ((with_reducible refine gate_ld rfl ?_); refine wl_ld rfl _ rfl rfl hp7.out hP2l.out ?_) | ((with_reducible refine gate_st rfl ?_); refine wl_st rfl _ _ rfl rfl rfl hpb7.out hPl2.out hP2l.out ?_; intro w8 hp8 hf8; replace hp8 := Aside0.mk hp8; replace hf8 := Aside0.mk hf8))
                  have hcs8 := Aside0.mk (show CS w8 g L from hf8.out.blk hcs7.out hI5.out.lo.2.2)
                  have hD8 := Aside0.mk (hf8.out.blk hD7.out (fun e => by have e' : p = b := e; have := hlts.out; omega))
                  have hbl8 := Aside0.mk (hbl7.out.trans (hf8.out.below hbl7.out.size (fun i e => by rw [e]; exact hI5.out.lo.2.1)))
                  obtain ⟨y0, y1, y2, y3, y4⟩ := boxD_cells x A3 c3 A4 c4 hD8.out
                  go_upto_region 24 with (go_at_call 8; refine (hAD.out _ hcs8.out).mono ?_; rintro e w9 ⟨rfl, hcs9, hf9⟩; replace hcs9 := Aside0.mk hcs9; replace hf9 := Aside0.mk hf9)
                  have hD9 := Aside0.mk (hf9.out.blk hD8.out (fun e => by have e' : p = g := e; have := hlts.out; omega))
                  have hI9 := Aside0.mk (show LI W g b L2 w9 from ⟨hgl2.out, hcs9.out, by rw [← hP2.out]; exact hf9.out.blk hp8.out (fun e => hI5.out.lo.2.2 e.symm), hbl8.out.trans (hf9.out.below hbl8.out.size (fun i e => by rw [e]; exact hI5.out.lo.1)), hI5.out.lo⟩)
                  clear y0 y1 y2 y3 y4
                  go_wp2
                  go_meet
                  case rel => exact ⟨L2, _, rfl, rfl, ⟨hm2.out.symm⟩, hI9, hD9⟩
            | false =>
              rcases q01 with q0 | ⟨q0, q1⟩
              all_goals
                as_aux_lemma =>
                  have hRA := radd_calls (pOf L) hPl.out x.f1 x.f2 w5
                  rw [raddP_of hLl.out, raddOk_of hLl.out, hok] at hRA
                  have hAD := fun (w : World) (h : CS w g L) => add_calls g L hLl.out x.f1 x.f2 w h
                  rw [hok] at hAD
                  have hm2 := many_add hI5.out.gl x.f1 x.f2
                  rw [hok, ← HQ.out] at hm2
                  have hgl2 := Aside0.mk (GL_add hI5.out.gl x.f1 x.f2)
                  generalize hL2 : addL L x.f1 x.f2 = L2 at hRA hAD hm2 hgl2
                  obtain ⟨P, hP⟩ : ∃ P, P = pOf L := ⟨_, rfl⟩
                  obtain ⟨P2, hP2⟩ : ∃ P2, P2 = pOf L2 := ⟨_, rfl⟩
                  rw [← hP] at hRA
                  rw [← hP2] at hRA
                  have hp5 := Aside0.mk (show PS w5 b P by rw [hP]; exact hI5.out.ps)
                  have hPl2 := Aside0.mk (show P.length = 97 by rw [hP]; exact hPl.out)
                  have hP2l := Aside0.mk (show P2.length = 97 by rw [hP2]; exact pOf_length hgl2.out.len)
                  replace hRA := Aside0.mk hRA
                  replace hAD := Aside0.mk hAD
                  replace hm2 := Aside0.mk hm2
                  replace hP := Aside0.mk hP
                  replace hP2 := Aside0.mk hP2
                  clear hL2 hok
                  go_upto_region 22 with (first | ((with_reducible refine gate_ld rfl ?_); refine wl_ld rfl _ rfl rfl hp5.out hPl2.out ?_) | (go_at_call 18; refine hRA.out.mono ?_; rintro e w6 ⟨rfl, hb6⟩; replace hb6 := Aside0.mk hb6) | ((with_reducible refine gate_st rfl ?_); refine wl_st rfl _ _ rfl rfl rfl (hpn.out _) lz97 hP2l.out ?_; intro w7 hp7 hf7; replace hp7 := Aside0.mk hp7; replace hf7 := Aside0.mk hf7))
                  have hb7 := Aside0.mk (show Below w5.heap.size w5 w7 from (below_alloc hb6.out _).trans (hf7.out.below (by rw [World.size_alloc]; have := hb6.out.size; omega) (fun i e => by rw [e]; exact hb6.out.size)))
                  have hpb7 := Aside0.mk (show PS w7 b P from blk_below hp5.out hb7.out)
                  have hcs7 := Aside0.mk (show CS w7 g L from blk_below hI5.out.cs hb7.out)
                  have hD7 := Aside0.mk (blk_below hD5.out hb7.out)
                  have hbl7 := Aside0.mk (below_step hI5.out.bel hb7.out)
                  clear y0 y1 y2 y3 y4
                  go_upto_region 23 with (first | ((with_reducible refine gate_ld rfl ?_); refine wl_ld rfl _ rfl rfl hp7.out hP2l.out ?_) | ((with_reducible refine gate_st rfl ?_); refine wl_st rfl _ _ rfl rfl rfl hpb7.out hPl2.out hP2l.out ?_; intro w8 hp8 hf8; replace hp8 := Aside0.mk hp8; replace hf8 := Aside0.mk hf8))
                  have hcs8 := Aside0.mk (show CS w8 g L from hf8.out.blk hcs7.out hI5.out.lo.2.2)
                  have hD8 := Aside0.mk (hf8.out.blk hD7.out (fun e => by have e' : p = b := e; have := hlts.out; omega))
                  have hbl8 := Aside0.mk (hbl7.out.trans (hf8.out.below hbl7.out.size (fun i e => by rw [e]; exact hI5.out.lo.2.1)))
                  obtain ⟨y0, y1, y2, y3, y4⟩ := boxD_cells x A3 c3 A4 c4 hD8.out
                  go_upto_region 24 with (go_at_call 8; refine (hAD.out _ hcs8.out).mono ?_; rintro e w9 ⟨rfl, hcs9, hf9⟩; replace hcs9 := Aside0.mk hcs9; replace hf9 := Aside0.mk hf9)
                  have hD9 := Aside0.mk (hf9.out.blk hD8.out (fun e => by have e' : p = g := e; have := hlts.out; omega))
                  have hI9 := Aside0.mk (show LI W g b L2 w9 from ⟨hgl2.out, hcs9.out, by rw [← hP2.out]; exact hf9.out.blk hp8.out (fun e => hI5.out.lo.2.2 e.symm), hbl8.out.trans (hf9.out.below hbl8.out.size (fun i e => by rw [e]; exact hI5.out.lo.1)), hI5.out.lo⟩)
                  clear y0 y1 y2 y3 y4
                  go_wp2
                  go_meet
                  case rel => exact ⟨L2, _, rfl, rfl, ⟨hm2.out.symm⟩, hI9, hD9⟩
          · have q0 : (x.f0 == 0) = false := beq_eq_false_iff_ne.mpr (by omega)
            have q1 : (x.f0 == 1) = false := beq_eq_false_iff_ne.mpr (by omega)
            clear h01
            by_cases h2 : x.f0 = 2
            · have q2 : (x.f0 == 2) = true := beq_iff_eq.mpr h2
              clear h2
              cases hok : inC L x.f1 with
              | true =>
                as_aux_lemma =>
                  have hRA := rrem_calls (pOf L) hPl.out x.f1 w5
                  rw [rremP_of hLl.out, rremOk_of hLl.out, hok] at hRA
                  have hAD := fun (w : World) (h : CS w g L) => rem_calls g L hLl.out x.f1 w h
                  rw [hok] at hAD
                  have hm2 := many_rem hI5.out.gl x.f1
                  rw [hok, ← HQ.out] at hm2
                  have hgl2 := Aside0.mk (GL_rem hI5.out.gl x.f1)
                  generalize hL2 : remL L x.f1 = L2 at hRA hAD hm2 hgl2
                  obtain ⟨P, hP⟩ : ∃ P, P = pOf L := ⟨_, rfl⟩
                  obtain ⟨P2, hP2⟩ : ∃ P2, P2 = pOf L2 := ⟨_, rfl⟩
                  rw [← hP] at hRA
                  rw [← hP2] at hRA
                  have hp5 := Aside0.mk (show PS w5 b P by rw [hP]; exact hI5.out.ps)
                  have hPl2 := Aside0.mk (show P.length = 97 by rw [hP]; exact hPl.out)
                  have hP2l := Aside0.mk (show P2.length = 97 by rw [hP2]; exact pOf_length hgl2.out.len)
                  replace hRA := Aside0.mk hRA
                  replace hAD := Aside0.mk hAD
                  replace hm2 := Aside0.mk hm2
                  replace hP := Aside0.mk hP
                  replace hP2 := Aside0.mk hP2
                  clear hL2 hok
                  go_upto_region 28 with (first | ((with_reducible refine gate_ld rfl ?_); refine wl_ld rfl _ rfl rfl hp5.out hPl2.out ?_) | (go_at_call 19; refine hRA.out.mono ?_; rintro e w6 ⟨rfl, hb6⟩; replace hb6 := Aside0.mk hb6) | ((with_reducible refine gate_st rfl ?_); refine wl_st rfl _ _ rfl rfl rfl (hpn.out _) lz97 hP2l.out ?_; intro w7 hp7 hf7; replace hp7 := Aside0.mk hp7; replace hf7 := Aside0.mk hf7))
                  have hb7 := Aside0.mk (show Below w5.heap.size w5 w7 from (below_alloc hb6.out _).trans (hf7.out.below (by rw [World.size_alloc]; have := hb6.out.size; omega) (fun i e => by rw [e]; exact hb6.out.size)))
                  have hpb7 := Aside0.mk (show PS w7 b P from blk_below hp5.out hb7.out)
                  have hcs7 := Aside0.mk (show CS w7 g L from blk_below hI5.out.cs hb7.out)
                  have hD7 := Aside0.mk (blk_below hD5.out hb7.out)
                  have hbl7 := Aside0.mk (below_step hI5.out.bel hb7.out)
                  clear y0 y1 y2 y3 y4
                  go_upto_region 29 with (first | ((with_reducible refine gate_ld rfl ?_); refine wl_ld rfl _ rfl rfl hp7.out hP2l.out ?_) | ((with_reducible refine gate_st rfl ?_); refine wl_st rfl _ _ rfl rfl rfl hpb7.out hPl2.out hP2l.out ?_; intro w8 hp8 hf8; replace hp8 := Aside0.mk hp8; replace hf8 := Aside0.mk hf8))
                  have hcs8 := Aside0.mk (show CS w8 g L from hf8.out.blk hcs7.out hI5.out.lo.2.2)
                  have hD8 := Aside0.mk (hf8.out.blk hD7.out (fun e => by have e' : p = b := e; have := hlts.out; omega))
                  have hbl8 := Aside0.mk (hbl7.out.trans (hf8.out.below hbl7.out.size (fun i e => by rw [e]; exact hI5.out.lo.2.1)))
                  obtain ⟨y0, y1, y2, y3, y4⟩ := boxD_cells x A3 c3 A4 c4 hD8.out
                  go_upto_region 30 with (go_at_call 15; refine (hAD.out _ hcs8.out).mono ?_; rintro e w9 ⟨rfl, hcs9, hf9⟩; replace hcs9 := Aside0.mk hcs9; replace hf9 := Aside0.mk hf9)
                  have hD9 := Aside0.mk (hf9.out.blk hD8.out (fun e => by have e' : p = g := e; have := hlts.out; omega))
                  have hI9 := Aside0.mk (show LI W g b L2 w9 from ⟨hgl2.out, hcs9.out, by rw [← hP2.out]; exact hf9.out.blk hp8.out (fun e => hI5.out.lo.2.2 e.symm), hbl8.out.trans (hf9.out.below hbl8.out.size (fun i e => by rw [e]; exact hI5.out.lo.1)), hI5.out.lo⟩)
                  clear y0 y1 y2 y3 y4
                  go_wp2
                  go_meet
                  case rel => exact ⟨L2, _, rfl, rfl, ⟨hm2.out.symm⟩, hI9, hD9⟩
              | false =>
                as_aux_lemma =>
                  have hRA := rrem_calls (pOf L) hPl.out x.f1 w5
                  rw [rremP_of hLl.out, rremOk_of hLl.out, hok] at hRA
                  have hAD := fun (w : World) (h : CS w g L) => rem_calls g L hLl.out x.f1 w h
                  rw [hok] at hAD
                  have hm2 := many_rem hI5.out.gl x.f1
                  rw [hok, ← HQ.out] at hm2
                  have hgl2 := Aside0.mk (GL_rem hI5.out.gl x.f1)
                  generalize hL2 : remL L x.f1 = L2 at hRA hAD hm2 hgl2
                  obtain ⟨P, hP⟩ : ∃ P, P = pOf L := ⟨_, rfl⟩
                  obtain ⟨P2, hP2⟩ : ∃ P2, P2 = pOf L2 := ⟨_, rfl⟩
                  rw [← hP] at hRA
                  rw [← hP2] at hRA
                  have hp5 := Aside0.mk (show PS w5 b P by rw [hP]; exact hI5.out.ps)
                  have hPl2 := Aside0.mk (show P.length = 97 by rw [hP]; exact hPl.out)
                  have hP2l := Aside0.mk (show P2.length = 97 by rw [hP2]; exact pOf_length hgl2.out.len)
                  replace hRA := Aside0.mk hRA
                  replace hAD := Aside0.mk hAD
                  replace hm2 := Aside0.mk hm2
                  replace hP := Aside0.mk hP
                  replace hP2 := Aside0.mk hP2
                  clear hL2 hok
                  go_upto_region 28 with (first | ((with_reducible refine gate_ld rfl ?_); refine wl_ld rfl _ rfl rfl hp5.out hPl2.out ?_) | (go_at_call 19; refine hRA.out.mono ?_; rintro e w6 ⟨rfl, hb6⟩; replace hb6 := Aside0.mk hb6) | ((with_reducible refine gate_st rfl ?_); refine wl_st rfl _ _ rfl rfl rfl (hpn.out _) lz97 hP2l.out ?_; intro w7 hp7 hf7; replace hp7 := Aside0.mk hp7; replace hf7 := Aside0.mk hf7))
                  have hb7 := Aside0.mk (show Below w5.heap.size w5 w7 from (below_alloc hb6.out _).trans (hf7.out.below (by rw [World.size_alloc]; have := hb6.out.size; omega) (fun i e => by rw [e]; exact hb6.out.size)))
                  have hpb7 := Aside0.mk (show PS w7 b P from blk_below hp5.out hb7.out)
                  have hcs7 := Aside0.mk (show CS w7 g L from blk_below hI5.out.cs hb7.out)
                  have hD7 := Aside0.mk (blk_below hD5.out hb7.out)
                  have hbl7 := Aside0.mk (below_step hI5.out.bel hb7.out)
                  clear y0 y1 y2 y3 y4
                  go_upto_region 29 with (first | ((with_reducible refine gate_ld rfl ?_); refine wl_ld rfl _ rfl rfl hp7.out hP2l.out ?_) | ((with_reducible refine gate_st rfl ?_); refine wl_st rfl _ _ rfl rfl rfl hpb7.out hPl2.out hP2l.out ?_; intro w8 hp8 hf8; replace hp8 := Aside0.mk hp8; replace hf8 := Aside0.mk hf8))
                  have hcs8 := Aside0.mk (show CS w8 g L from hf8.out.blk hcs7.out hI5.out.lo.2.2)
                  have hD8 := Aside0.mk (hf8.out.blk hD7.out (fun e => by have e' : p = b := e; have := hlts.out; omega))
                  have hbl8 := Aside0.mk (hbl7.out.trans (hf8.out.below hbl7.out.size (fun i e => by rw [e]; exact hI5.out.lo.2.1)))
                  obtain ⟨y0, y1, y2, y3, y4⟩ := boxD_cells x A3 c3 A4 c4 hD8.out
                  go_upto_region 30 with (go_at_call 15; refine (hAD.out _ hcs8.out).mono ?_; rintro e w9 ⟨rfl, hcs9, hf9⟩; replace hcs9 := Aside0.mk hcs9; replace hf9 := Aside0.mk hf9)
                  have hD9 := Aside0.mk (hf9.out.blk hD8.out (fun e => by have e' : p = g := e; have := hlts.out; omega))
                  have hI9 := Aside0.mk (show LI W g b L2 w9 from ⟨hgl2.out, hcs9.out, by rw [← hP2.out]; exact hf9.out.blk hp8.out (fun e => hI5.out.lo.2.2 e.symm), hbl8.out.trans (hf9.out.below hbl8.out.size (fun i e => by rw [e]; exact hI5.out.lo.1)), hI5.out.lo⟩)
                  clear y0 y1 y2 y3 y4
                  go_wp2
                  go_meet
                  case rel => exact ⟨L2, _, rfl, rfl, ⟨hm2.out.symm⟩, hI9, hD9⟩
            · have q2 : (x.f0 == 2) = false := beq_eq_false_iff_ne.mpr h2
              clear h2
              as_aux_lemma =>
                have hTN := turn_calls g L hI5.out.gl x A3 c3 A4 c4 w5 hI5.out.cs C3.out l3.out C4.out l4.out (by have := hlx.out; omega) (by have := hlx.out; omega) (fun ad e hp => by have h1 := hlt3.out ad e hp; have h2 := hI5.out.lo.1; have h3 := hI5.out.bel.size; exact ⟨by omega, by omega⟩)
                obtain ⟨P, hP⟩ : ∃ P, P = pOf L := ⟨_, rfl⟩
                rw [← hP] at hTN
                have hp5 := Aside0.mk (show PS w5 b P by rw [hP]; exact hI5.out.ps)
                have hPl2 := Aside0.mk (show P.length = 97 by rw [hP]; exact hPl.out)
                unfold boxD at hTN
                replace hTN := Aside0.mk hTN
                clear hP
                go_wp2_with (first | ((with_reducible refine gate_ld rfl ?_); refine wl_ld rfl _ rfl rfl hp5.out hPl2.out ?_) | (go_at_call 20; refine hTN.out.mono ?_; rintro e w8 hTP; obtain ⟨L2, hgl2, hm2, rfl, hcs8⟩ := hTP.of; obtain ⟨P2, hP2⟩ : ∃ P2, P2 = pOf L2 := ⟨_, rfl⟩; rw [← hP2]; have hP2l := Aside0.mk (show P2.length = 97 by rw [hP2]; exact pOf_length hgl2.len); have hf8 := Aside0.mk hTP.far; have hpb8 := Aside0.mk (show PS w8 b P from hf8.out.blk hp5.out (fun e => by have h1 := blk_lt hp5.out; have h2 := hI5.out.lo.2.2; rcases e with e | e <;> omega)); replace hm2 := Aside0.mk hm2; replace hgl2 := Aside0.mk hgl2; replace hcs8 := Aside0.mk hcs8; replace hP2 := Aside0.mk hP2; clear hTP) | ((with_reducible refine gate_st rfl ?_); refine wl_st rfl _ _ rfl rfl rfl hpb8.out hPl2.out hP2l.out ?_; intro w9 hp9 hf9; replace hp9 := Aside0.mk hp9; replace hf9 := Aside0.mk hf9))
                have hD9 := Aside0.mk (hf9.out.blk (hf8.out.blk hD5.out (fun e => by have h1 := blk_lt hD5.out; have h2 := hlts.out; rcases e with e | e <;> omega)) (fun e => by have e' : p = b := e; have := hlts.out; omega))
                have hbl8 := Aside0.mk (hI5.out.bel.trans (hf8.out.below hI5.out.bel.size (fun i e => e.elim (fun e => by rw [e]; exact hI5.out.lo.1) (fun e => Nat.le_trans hI5.out.bel.size e))))
                have hI9 := Aside0.mk (show LI W g b L2 w9 from ⟨hgl2.out, hf9.out.blk hcs8.out hI5.out.lo.2.2, by rw [← hP2.out]; exact hp9.out, hbl8.out.trans (hf9.out.below hbl8.out.size (fun i e => by rw [e]; exact hI5.out.lo.2.1)), hI5.out.lo⟩)
                go_meet
                case rel => exact ⟨L2, _, rfl, rfl, ⟨by rw [hm2.out]; exact HQ.out⟩, hI9, hD9⟩
        case rest =>
          obtain ⟨L2, q2, rfl, rfl, HQ2, HI2, HD2⟩ := hcut
          clear C3 C4 hlx hlt3 l3 l4 hI5 hD5 hPl hLl y0 y1 y2 y3 y4 HQ
          have hgl := HI2.out.gl
          have hPg := page_calls g L2 hgl x.f1 wc HI2.out.cs
          have hFr := frame_calls g L2 hgl x.f2 wc HI2.out.cs
          have hRF := rframe_calls (pOf L2) (pOf_length hgl.len) x.f2 wc
          rw [fnd_of hgl.len] at hRF
          generalize fnd (qC L2 x.f2) 96 0 = z at hFr hRF
          obtain ⟨fb, hfb⟩ : ∃ fb, fb = decide (0 ≤ z) := ⟨_, rfl⟩
          have d2 : decide (0 ≤ z) = fb := hfb.symm
          have d1 : decide (z ≥ 0) = fb := hfb.symm
          obtain ⟨fv, hfv⟩ : ∃ fv, fv = frV z := ⟨_, rfl⟩
          have hmx : (if 0 < z then z else 0) = fv := by
            rw [hfv]
            unfold frV
            by_cases h1 : 0 < z
            · rw [if_pos h1, if_neg (by omega)]
            · rw [if_neg h1]
              by_cases h2 : z < 0
              · rw [if_pos h2]
              · rw [if_neg h2]; omega
          rw [← hfv, ← hfb] at hFr
          clear hfb hfv
          have hP2l := Aside0.mk (pOf_length hgl.len)
          have hLl := Aside0.mk hgl.len
          have kh := ints_cell HI2.out.ps 96 (by rw [hP2l.out]; decide)
          rw [pOf_hand hgl.len] at kh
          obtain ⟨hv, hhv⟩ : ∃ hv, hv = L2.getD 96 0 := ⟨_, rfl⟩
          rw [← hhv] at kh
          replace hhv := Aside0.mk hhv
          have ws := Aside0.mk (w64s i (by have := hi100.out; omega))
          obtain ⟨_, y1, y2, _, _⟩ := boxD_cells x A3 c3 A4 c4 HD2.out
          replace hFr := Aside0.mk hFr
          replace hRF := Aside0.mk hRF
          by_cases hn0 : x.f1 < 0
          · have g1 : decide (x.f1 ≥ 0) = false := decide_eq_false (by omega)
            have g1' : decide (0 ≤ x.f1) = false := decide_eq_false (by omega)
            have g2 : ¬ 0 ≤ x.f1 := by omega
            rw [inC_out (by omega)] at hPg
            clear hn0 hgl
            as_aux_lemma =>
              replace hPg := Aside0.mk hPg
              have hps := Aside0.mk HI2.out.ps
              obtain ⟨P, hP⟩ : ∃ P, P = pOf L2 := ⟨_, rfl⟩
              rw [← hP] at hps hP2l hRF
              replace hP := Aside0.mk hP
              go_upto_region 36 with (first | ((with_reducible refine gate_ld rfl ?_); refine wl_ld rfl _ rfl rfl hps.out hP2l.out ?_) | (go_at_call 13; refine hPg.out.mono ?_; rintro e w1 ⟨rfl, h1⟩; replace h1 := h1.symm; subst h1) | (go_at_call 14; refine hFr.out.mono ?_; rintro e w1 ⟨rfl, h1⟩; replace h1 := h1.symm; subst h1) | (go_at_call 21; refine hRF.out.mono ?_; rintro e w10 ⟨rfl, hb10⟩; replace hb10 := Aside0.mk hb10))
              have HI3 := Aside0.mk (HI2.out.below hb10.out)
              have kh3 := cell_bel hb10.out kh
              clear kh y1 y2 hps 
              have hLn := fun (w' : World) (hb : Below w10.heap.size w10 w') => len_calls g L2 hLl.out w' (blk_below HI3.out.cs hb)
              have hHn := fun (w' : World) (hb : Below w10.heap.size w10 w') => hand_calls g L2 hLl.out w' (blk_below HI3.out.cs hb)
              rw [← HQ2.out] at hLn
              rw [← hhv.out] at hHn
              replace hLn := Aside0.mk hLn
              replace hHn := Aside0.mk hHn
              refine wp_region_held_drew (S := fun w' : World => w'.cell? ⟨b, 96, none⟩ = some (.int .i64 hv)) (by kernel_rfl) kh3 (fun hHeld => ?_)
              first
                | (refine wpAnyH_take (i := 0) (oi := { dst := some 181, op := Op.move (Operand.tmp 15), type := 4, pos := "law.go:96", after := #[], guard := none }) (v := undef) rfl (by kernel_rfl) (by kernel_rfl) (by kernel_rfl) (fun _ _ _ h => h) (Or.inr ⟨by rfl, rfl⟩) (by assumption) ?_)
                | (refine wpAnyH_take (i := 0) (oi := { dst := some 181, op := Op.move (Operand.tmp 15), type := 4, pos := "law.go:96", after := #[], guard := none }) (v := ?_) rfl (by kernel_rfl) (by kernel_rfl) (by kernel_rfl) (fun _ _ _ h => h) (Or.inl ⟨by rfl, ?_⟩) (by assumption) ?_; rotate_left; · (intro wq hSw; (try dsimp only at hSw); go_simp; try (with_reducible rfl)))
              try simp only [Act.put, List.setIfInBounds_toArray, List.set_cons_zero, List.set_cons_succ]
              first
                | (refine wpAnyH_take (i := 1) (oi := { dst := some 182, op := Op.unOp UnOp.not 4 (Operand.tmp 181), type := 4, pos := "law.go:96", after := #[{ on := 0, ground := Ground.data }], guard := none }) (v := undef) rfl (by kernel_rfl) (by kernel_rfl) (by kernel_rfl) (fun _ _ _ h => h) (Or.inr ⟨by rfl, rfl⟩) (by assumption) ?_)
                | (refine wpAnyH_take (i := 1) (oi := { dst := some 182, op := Op.unOp UnOp.not 4 (Operand.tmp 181), type := 4, pos := "law.go:96", after := #[{ on := 0, ground := Ground.data }], guard := none }) (v := ?_) rfl (by kernel_rfl) (by kernel_rfl) (by kernel_rfl) (fun _ _ _ h => h) (Or.inl ⟨by rfl, ?_⟩) (by assumption) ?_; rotate_left; · (intro wq hSw; (try dsimp only at hSw); go_simp; try (with_reducible rfl)))
              try simp only [Act.put, List.setIfInBounds_toArray, List.set_cons_zero, List.set_cons_succ]
              first
                | (refine wpAnyH_take (i := 2) (oi := { dst := some 183, op := Op.move (Operand.tmp 182), type := 4, pos := "law.go:96", after := #[{ on := 1, ground := Ground.data }], guard := none }) (v := undef) rfl (by kernel_rfl) (by kernel_rfl) (by kernel_rfl) (fun _ _ _ h => h) (Or.inr ⟨by rfl, rfl⟩) (by assumption) ?_)
                | (refine wpAnyH_take (i := 2) (oi := { dst := some 183, op := Op.move (Operand.tmp 182), type := 4, pos := "law.go:96", after := #[{ on := 1, ground := Ground.data }], guard := none }) (v := ?_) rfl (by kernel_rfl) (by kernel_rfl) (by kernel_rfl) (fun _ _ _ h => h) (Or.inl ⟨by rfl, ?_⟩) (by assumption) ?_; rotate_left; · (intro wq hSw; (try dsimp only at hSw); go_simp; try (with_reducible rfl)))
              try simp only [Act.put, List.setIfInBounds_toArray, List.set_cons_zero, List.set_cons_succ]
              first
                | (refine wpAnyH_take (i := 3) (oi := { dst := some 184, op := Op.move (Operand.tmp 10), type := 24, pos := "law.go:96", after := #[{ on := 2, ground := Ground.guard }], guard := some (2, false) }) (v := undef) rfl (by kernel_rfl) (by kernel_rfl) (by kernel_rfl) (fun _ _ _ h => h) (Or.inr ⟨by rfl, rfl⟩) (by assumption) ?_)
                | (refine wpAnyH_take (i := 3) (oi := { dst := some 184, op := Op.move (Operand.tmp 10), type := 24, pos := "law.go:96", after := #[{ on := 2, ground := Ground.guard }], guard := some (2, false) }) (v := ?_) rfl (by kernel_rfl) (by kernel_rfl) (by kernel_rfl) (fun _ _ _ h => h) (Or.inl ⟨by rfl, ?_⟩) (by assumption) ?_; rotate_left; · (intro wq hSw; (try dsimp only at hSw); go_simp; try (with_reducible rfl)))
              try simp only [Act.put, List.setIfInBounds_toArray, List.set_cons_zero, List.set_cons_succ]
              first
                | (refine wpAnyH_take (i := 5) (oi := { dst := some 186, op := Op.move (Operand.tmp 12), type := 3, pos := "law.go:96", after := #[{ on := 2, ground := Ground.guard }], guard := some (2, false) }) (v := undef) rfl (by kernel_rfl) (by kernel_rfl) (by kernel_rfl) (fun _ _ _ h => h) (Or.inr ⟨by rfl, rfl⟩) (by assumption) ?_)
                | (refine wpAnyH_take (i := 5) (oi := { dst := some 186, op := Op.move (Operand.tmp 12), type := 3, pos := "law.go:96", after := #[{ on := 2, ground := Ground.guard }], guard := some (2, false) }) (v := ?_) rfl (by kernel_rfl) (by kernel_rfl) (by kernel_rfl) (fun _ _ _ h => h) (Or.inl ⟨by rfl, ?_⟩) (by assumption) ?_; rotate_left; · (intro wq hSw; (try dsimp only at hSw); go_simp; try (with_reducible rfl)))
              try simp only [Act.put, List.setIfInBounds_toArray, List.set_cons_zero, List.set_cons_succ]
              refine wpAnyH_ready (rs := [4]) (by kernel_rfl) (by simp) ?_
              refine AllReadyH.cons (o := { dst := some 185, op := Op.call { callee := Callee.value (Operand.func 12), args := #[Operand.tmp 184], argTypes := #[24] }, type := 3, pos := "law.go:96", after := #[{ on := 3, ground := Ground.data }, { on := 2, ground := Ground.chain }, { on := 2, ground := Ground.guard }], guard := some (2, false) }) rfl (fun K hK => ?_) ?_
              rotate_left
              · exact AllReadyH.nil
              go_simp
              go_at_call 12
              refine (hLn.out _ (by repeat (first | exact Below.refl _ _ | refine pw_below_drewN ?_ _ | refine below_drew ?_))).mono ?_
              rintro e w11 ⟨rfl, h1⟩
              replace h1 := h1.symm
              subst h1
              refine hK.out _ _ ?_ (fun hHeld => ?_)
              · exact hHeld
              clear hK K
              try simp only [Act.put, List.setIfInBounds_toArray, List.set_cons_zero, List.set_cons_succ]
              first
                | (refine wpAnyH_take (i := 6) (oi := { dst := some 187, op := Op.binOp BinOp.neq 3 (Operand.tmp 185) (Operand.tmp 186) 3, type := 4, pos := "law.go:96", after := #[{ on := 4, ground := Ground.data }, { on := 5, ground := Ground.data }, { on := 2, ground := Ground.guard }], guard := some (2, false) }) (v := undef) rfl (by kernel_rfl) (by kernel_rfl) (by kernel_rfl) (fun _ _ _ h => h) (Or.inr ⟨by rfl, rfl⟩) (by assumption) ?_)
                | (refine wpAnyH_take (i := 6) (oi := { dst := some 187, op := Op.binOp BinOp.neq 3 (Operand.tmp 185) (Operand.tmp 186) 3, type := 4, pos := "law.go:96", after := #[{ on := 4, ground := Ground.data }, { on := 5, ground := Ground.data }, { on := 2, ground := Ground.guard }], guard := some (2, false) }) (v := ?_) rfl (by kernel_rfl) (by kernel_rfl) (by kernel_rfl) (fun _ _ _ h => h) (Or.inl ⟨by rfl, ?_⟩) (by assumption) ?_; rotate_left; · (intro wq hSw; (try dsimp only at hSw); go_simp; try (with_reducible rfl)))
              try simp only [Act.put, List.setIfInBounds_toArray, List.set_cons_zero, List.set_cons_succ]
              first
                | (refine wpAnyH_take (i := 7) (oi := { dst := some 188, op := Op.pick (Operand.tmp 183) (Operand.const (Value.bool true)) (Operand.tmp 187), type := 4, pos := "law.go:96", after := #[{ on := 2, ground := Ground.data }, { on := 6, ground := Ground.data }], guard := none }) (v := undef) rfl (by kernel_rfl) (by kernel_rfl) (by kernel_rfl) (fun _ _ _ h => h) (Or.inr ⟨by rfl, rfl⟩) (by assumption) ?_)
                | (refine wpAnyH_take (i := 7) (oi := { dst := some 188, op := Op.pick (Operand.tmp 183) (Operand.const (Value.bool true)) (Operand.tmp 187), type := 4, pos := "law.go:96", after := #[{ on := 2, ground := Ground.data }, { on := 6, ground := Ground.data }], guard := none }) (v := ?_) rfl (by kernel_rfl) (by kernel_rfl) (by kernel_rfl) (fun _ _ _ h => h) (Or.inl ⟨by rfl, ?_⟩) (by assumption) ?_; rotate_left; · (intro wq hSw; (try dsimp only at hSw); go_simp; try (with_reducible rfl)))
              try simp only [Act.put, List.setIfInBounds_toArray, List.set_cons_zero, List.set_cons_succ]
              first
                | (refine wpAnyH_take (i := 8) (oi := { dst := some 189, op := Op.move (Operand.tmp 188), type := 4, pos := "law.go:96", after := #[{ on := 7, ground := Ground.data }, { on := 4, ground := Ground.chain }], guard := none }) (v := undef) rfl (by kernel_rfl) (by kernel_rfl) (by kernel_rfl) (fun _ _ _ h => h) (Or.inr ⟨by rfl, rfl⟩) (by assumption) ?_)
                | (refine wpAnyH_take (i := 8) (oi := { dst := some 189, op := Op.move (Operand.tmp 188), type := 4, pos := "law.go:96", after := #[{ on := 7, ground := Ground.data }, { on := 4, ground := Ground.chain }], guard := none }) (v := ?_) rfl (by kernel_rfl) (by kernel_rfl) (by kernel_rfl) (fun _ _ _ h => h) (Or.inl ⟨by rfl, ?_⟩) (by assumption) ?_; rotate_left; · (intro wq hSw; (try dsimp only at hSw); go_simp; try (with_reducible rfl)))
              try simp only [Act.put, List.setIfInBounds_toArray, List.set_cons_zero, List.set_cons_succ]
              first
                | (refine wpAnyH_take (i := 9) (oi := { dst := some 190, op := Op.move (Operand.tmp 10), type := 24, pos := "law.go:96", after := #[{ on := 8, ground := Ground.guard }], guard := some (8, false) }) (v := undef) rfl (by kernel_rfl) (by kernel_rfl) (by kernel_rfl) (fun _ _ _ h => h) (Or.inr ⟨by rfl, rfl⟩) (by assumption) ?_)
                | (refine wpAnyH_take (i := 9) (oi := { dst := some 190, op := Op.move (Operand.tmp 10), type := 24, pos := "law.go:96", after := #[{ on := 8, ground := Ground.guard }], guard := some (8, false) }) (v := ?_) rfl (by kernel_rfl) (by kernel_rfl) (by kernel_rfl) (fun _ _ _ h => h) (Or.inl ⟨by rfl, ?_⟩) (by assumption) ?_; rotate_left; · (intro wq hSw; (try dsimp only at hSw); go_simp; try (with_reducible rfl)))
              try simp only [Act.put, List.setIfInBounds_toArray, List.set_cons_zero, List.set_cons_succ]
              first
                | (refine wpAnyH_take (i := 11) (oi := { dst := some 192, op := Op.fieldAddr 41 (Operand.tmp 11) 1, type := 0, pos := "law.go:96", after := #[{ on := 8, ground := Ground.guard }], guard := some (8, false) }) (v := undef) rfl (by kernel_rfl) (by kernel_rfl) (by kernel_rfl) (fun _ _ _ h => h) (Or.inr ⟨by rfl, rfl⟩) (by assumption) ?_)
                | (refine wpAnyH_take (i := 11) (oi := { dst := some 192, op := Op.fieldAddr 41 (Operand.tmp 11) 1, type := 0, pos := "law.go:96", after := #[{ on := 8, ground := Ground.guard }], guard := some (8, false) }) (v := ?_) rfl (by kernel_rfl) (by kernel_rfl) (by kernel_rfl) (fun _ _ _ h => h) (Or.inl ⟨by rfl, ?_⟩) (by assumption) ?_; rotate_left; · (intro wq hSw; (try dsimp only at hSw); go_simp; try (with_reducible rfl)))
              try simp only [Act.put, List.setIfInBounds_toArray, List.set_cons_zero, List.set_cons_succ]
              first
                | (refine wpAnyH_take (i := 12) (oi := { dst := some 193, op := Op.load 3 (Operand.tmp 192), type := 3, pos := "law.go:96", after := #[{ on := 11, ground := Ground.data }, { on := 8, ground := Ground.guard }], guard := some (8, false) }) (v := undef) rfl (by kernel_rfl) (by kernel_rfl) (by kernel_rfl) (fun _ _ _ h => h) (Or.inr ⟨by rfl, rfl⟩) (by assumption) ?_)
                | (refine wpAnyH_take (i := 12) (oi := { dst := some 193, op := Op.load 3 (Operand.tmp 192), type := 3, pos := "law.go:96", after := #[{ on := 11, ground := Ground.data }, { on := 8, ground := Ground.guard }], guard := some (8, false) }) (v := ?_) rfl (by kernel_rfl) (by kernel_rfl) (by kernel_rfl) (fun _ _ _ h => h) (Or.inl ⟨by rfl, ?_⟩) (by assumption) ?_; rotate_left; · (intro wq hSw; (try dsimp only at hSw); go_simp; try (with_reducible rfl)))
              try simp only [Act.put, List.setIfInBounds_toArray, List.set_cons_zero, List.set_cons_succ]
              refine wpAnyH_ready (rs := [10]) (by kernel_rfl) (by simp) ?_
              refine AllReadyH.cons (o := { dst := some 191, op := Op.call { callee := Callee.value (Operand.func 9), args := #[Operand.tmp 190], argTypes := #[24] }, type := 3, pos := "law.go:96", after := #[{ on := 9, ground := Ground.data }, { on := 8, ground := Ground.chain }, { on := 8, ground := Ground.guard }], guard := some (8, false) }) rfl (fun K hK => ?_) ?_
              rotate_left
              · exact AllReadyH.nil
              go_simp
              go_at_call 9
              refine (hHn.out _ (by repeat (first | exact Below.refl _ _ | refine pw_below_drewN ?_ _ | refine below_drew ?_))).mono ?_
              rintro e w11 ⟨rfl, h1⟩
              replace h1 := h1.symm
              subst h1
              refine hK.out _ _ ?_ (fun hHeld => ?_)
              · exact hHeld
              clear hK K
              try simp only [Act.put, List.setIfInBounds_toArray, List.set_cons_zero, List.set_cons_succ]
              first
                | (refine wpAnyH_take (i := 13) (oi := { dst := some 194, op := Op.binOp BinOp.neq 3 (Operand.tmp 191) (Operand.tmp 193) 3, type := 4, pos := "law.go:96", after := #[{ on := 10, ground := Ground.data }, { on := 12, ground := Ground.data }, { on := 8, ground := Ground.guard }], guard := some (8, false) }) (v := undef) rfl (by kernel_rfl) (by kernel_rfl) (by kernel_rfl) (fun _ _ _ h => h) (Or.inr ⟨by rfl, rfl⟩) (by assumption) ?_)
                | (refine wpAnyH_take (i := 13) (oi := { dst := some 194, op := Op.binOp BinOp.neq 3 (Operand.tmp 191) (Operand.tmp 193) 3, type := 4, pos := "law.go:96", after := #[{ on := 10, ground := Ground.data }, { on := 12, ground := Ground.data }, { on := 8, ground := Ground.guard }], guard := some (8, false) }) (v := ?_) rfl (by kernel_rfl) (by kernel_rfl) (by kernel_rfl) (fun _ _ _ h => h) (Or.inl ⟨by rfl, ?_⟩) (by assumption) ?_; rotate_left; · (intro wq hSw; (try dsimp only at hSw); go_simp; try (with_reducible rfl)))
              try simp only [Act.put, List.setIfInBounds_toArray, List.set_cons_zero, List.set_cons_succ]
              first
                | (refine wpAnyH_take (i := 14) (oi := { dst := some 195, op := Op.pick (Operand.tmp 189) (Operand.const (Value.bool true)) (Operand.tmp 194), type := 4, pos := "law.go:96", after := #[{ on := 8, ground := Ground.data }, { on := 13, ground := Ground.data }], guard := none }) (v := undef) rfl (by kernel_rfl) (by kernel_rfl) (by kernel_rfl) (fun _ _ _ h => h) (Or.inr ⟨by rfl, rfl⟩) (by assumption) ?_)
                | (refine wpAnyH_take (i := 14) (oi := { dst := some 195, op := Op.pick (Operand.tmp 189) (Operand.const (Value.bool true)) (Operand.tmp 194), type := 4, pos := "law.go:96", after := #[{ on := 8, ground := Ground.data }, { on := 13, ground := Ground.data }], guard := none }) (v := ?_) rfl (by kernel_rfl) (by kernel_rfl) (by kernel_rfl) (fun _ _ _ h => h) (Or.inl ⟨by rfl, ?_⟩) (by assumption) ?_; rotate_left; · (intro wq hSw; (try dsimp only at hSw); go_simp; try (with_reducible rfl)))
              try simp only [Act.put, List.setIfInBounds_toArray, List.set_cons_zero, List.set_cons_succ]
              first
                | (refine wpAnyH_take (i := 15) (oi := { dst := some 196, op := Op.move (Operand.tmp 195), type := 4, pos := "law.go:96", after := #[{ on := 14, ground := Ground.data }, { on := 10, ground := Ground.chain }], guard := none }) (v := undef) rfl (by kernel_rfl) (by kernel_rfl) (by kernel_rfl) (fun _ _ _ h => h) (Or.inr ⟨by rfl, rfl⟩) (by assumption) ?_)
                | (refine wpAnyH_take (i := 15) (oi := { dst := some 196, op := Op.move (Operand.tmp 195), type := 4, pos := "law.go:96", after := #[{ on := 14, ground := Ground.data }, { on := 10, ground := Ground.chain }], guard := none }) (v := ?_) rfl (by kernel_rfl) (by kernel_rfl) (by kernel_rfl) (fun _ _ _ h => h) (Or.inl ⟨by rfl, ?_⟩) (by assumption) ?_; rotate_left; · (intro wq hSw; (try dsimp only at hSw); go_simp; try (with_reducible rfl)))
              try simp only [Act.put, List.setIfInBounds_toArray, List.set_cons_zero, List.set_cons_succ]
              first
                | (refine wpAnyH_take (i := 16) (oi := { dst := some 197, op := Op.move (Operand.tmp 21), type := 4, pos := "law.go:96", after := #[{ on := 15, ground := Ground.guard }], guard := some (15, false) }) (v := undef) rfl (by kernel_rfl) (by kernel_rfl) (by kernel_rfl) (fun _ _ _ h => h) (Or.inr ⟨by rfl, rfl⟩) (by assumption) ?_)
                | (refine wpAnyH_take (i := 16) (oi := { dst := some 197, op := Op.move (Operand.tmp 21), type := 4, pos := "law.go:96", after := #[{ on := 15, ground := Ground.guard }], guard := some (15, false) }) (v := ?_) rfl (by kernel_rfl) (by kernel_rfl) (by kernel_rfl) (fun _ _ _ h => h) (Or.inl ⟨by rfl, ?_⟩) (by assumption) ?_; rotate_left; · (intro wq hSw; (try dsimp only at hSw); go_simp; try (with_reducible rfl)))
              try simp only [Act.put, List.setIfInBounds_toArray, List.set_cons_zero, List.set_cons_succ]
              first
                | (refine wpAnyH_take (i := 17) (oi := { dst := some 198, op := Op.move (Operand.tmp 24), type := 4, pos := "law.go:96", after := #[{ on := 15, ground := Ground.guard }], guard := some (15, false) }) (v := undef) rfl (by kernel_rfl) (by kernel_rfl) (by kernel_rfl) (fun _ _ _ h => h) (Or.inr ⟨by rfl, rfl⟩) (by assumption) ?_)
                | (refine wpAnyH_take (i := 17) (oi := { dst := some 198, op := Op.move (Operand.tmp 24), type := 4, pos := "law.go:96", after := #[{ on := 15, ground := Ground.guard }], guard := some (15, false) }) (v := ?_) rfl (by kernel_rfl) (by kernel_rfl) (by kernel_rfl) (fun _ _ _ h => h) (Or.inl ⟨by rfl, ?_⟩) (by assumption) ?_; rotate_left; · (intro wq hSw; (try dsimp only at hSw); go_simp; try (with_reducible rfl)))
              try simp only [Act.put, List.setIfInBounds_toArray, List.set_cons_zero, List.set_cons_succ]
              first
                | (refine wpAnyH_take (i := 18) (oi := { dst := some 199, op := Op.binOp BinOp.neq 4 (Operand.tmp 197) (Operand.tmp 198) 4, type := 4, pos := "law.go:96", after := #[{ on := 16, ground := Ground.data }, { on := 17, ground := Ground.data }, { on := 15, ground := Ground.guard }], guard := some (15, false) }) (v := undef) rfl (by kernel_rfl) (by kernel_rfl) (by kernel_rfl) (fun _ _ _ h => h) (Or.inr ⟨by rfl, rfl⟩) (by assumption) ?_)
                | (refine wpAnyH_take (i := 18) (oi := { dst := some 199, op := Op.binOp BinOp.neq 4 (Operand.tmp 197) (Operand.tmp 198) 4, type := 4, pos := "law.go:96", after := #[{ on := 16, ground := Ground.data }, { on := 17, ground := Ground.data }, { on := 15, ground := Ground.guard }], guard := some (15, false) }) (v := ?_) rfl (by kernel_rfl) (by kernel_rfl) (by kernel_rfl) (fun _ _ _ h => h) (Or.inl ⟨by rfl, ?_⟩) (by assumption) ?_; rotate_left; · (intro wq hSw; (try dsimp only at hSw); go_simp; try (with_reducible rfl)))
              try simp only [Act.put, List.setIfInBounds_toArray, List.set_cons_zero, List.set_cons_succ]
              first
                | (refine wpAnyH_take (i := 19) (oi := { dst := some 200, op := Op.pick (Operand.tmp 196) (Operand.const (Value.bool true)) (Operand.tmp 199), type := 4, pos := "law.go:96", after := #[{ on := 15, ground := Ground.data }, { on := 18, ground := Ground.data }], guard := none }) (v := undef) rfl (by kernel_rfl) (by kernel_rfl) (by kernel_rfl) (fun _ _ _ h => h) (Or.inr ⟨by rfl, rfl⟩) (by assumption) ?_)
                | (refine wpAnyH_take (i := 19) (oi := { dst := some 200, op := Op.pick (Operand.tmp 196) (Operand.const (Value.bool true)) (Operand.tmp 199), type := 4, pos := "law.go:96", after := #[{ on := 15, ground := Ground.data }, { on := 18, ground := Ground.data }], guard := none }) (v := ?_) rfl (by kernel_rfl) (by kernel_rfl) (by kernel_rfl) (fun _ _ _ h => h) (Or.inl ⟨by rfl, ?_⟩) (by assumption) ?_; rotate_left; · (intro wq hSw; (try dsimp only at hSw); go_simp; try (with_reducible rfl)))
              try simp only [Act.put, List.setIfInBounds_toArray, List.set_cons_zero, List.set_cons_succ]
              first
                | (refine wpAnyH_take (i := 20) (oi := { dst := some 201, op := Op.move (Operand.tmp 200), type := 4, pos := "law.go:96", after := #[{ on := 19, ground := Ground.data }, { on := 15, ground := Ground.chain }], guard := none }) (v := undef) rfl (by kernel_rfl) (by kernel_rfl) (by kernel_rfl) (fun _ _ _ h => h) (Or.inr ⟨by rfl, rfl⟩) (by assumption) ?_)
                | (refine wpAnyH_take (i := 20) (oi := { dst := some 201, op := Op.move (Operand.tmp 200), type := 4, pos := "law.go:96", after := #[{ on := 19, ground := Ground.data }, { on := 15, ground := Ground.chain }], guard := none }) (v := ?_) rfl (by kernel_rfl) (by kernel_rfl) (by kernel_rfl) (fun _ _ _ h => h) (Or.inl ⟨by rfl, ?_⟩) (by assumption) ?_; rotate_left; · (intro wq hSw; (try dsimp only at hSw); go_simp; try (with_reducible rfl)))
              try simp only [Act.put, List.setIfInBounds_toArray, List.set_cons_zero, List.set_cons_succ]
              first
                | (refine wpAnyH_take (i := 21) (oi := { dst := some 202, op := Op.move (Operand.tmp 24), type := 4, pos := "law.go:96", after := #[{ on := 20, ground := Ground.guard }], guard := some (20, false) }) (v := undef) rfl (by kernel_rfl) (by kernel_rfl) (by kernel_rfl) (fun _ _ _ h => h) (Or.inr ⟨by rfl, rfl⟩) (by assumption) ?_)
                | (refine wpAnyH_take (i := 21) (oi := { dst := some 202, op := Op.move (Operand.tmp 24), type := 4, pos := "law.go:96", after := #[{ on := 20, ground := Ground.guard }], guard := some (20, false) }) (v := ?_) rfl (by kernel_rfl) (by kernel_rfl) (by kernel_rfl) (fun _ _ _ h => h) (Or.inl ⟨by rfl, ?_⟩) (by assumption) ?_; rotate_left; · (intro wq hSw; (try dsimp only at hSw); go_simp; try (with_reducible rfl)))
              try simp only [Act.put, List.setIfInBounds_toArray, List.set_cons_zero, List.set_cons_succ]
              first
                | (refine wpAnyH_take (i := 22) (oi := { dst := some 203, op := Op.move (Operand.tmp 202), type := 4, pos := "law.go:96", after := #[{ on := 21, ground := Ground.data }, { on := 20, ground := Ground.chain }, { on := 20, ground := Ground.guard }], guard := some (20, false) }) (v := undef) rfl (by kernel_rfl) (by kernel_rfl) (by kernel_rfl) (fun _ _ _ h => h) (Or.inr ⟨by rfl, rfl⟩) (by assumption) ?_)
                | (refine wpAnyH_take (i := 22) (oi := { dst := some 203, op := Op.move (Operand.tmp 202), type := 4, pos := "law.go:96", after := #[{ on := 21, ground := Ground.data }, { on := 20, ground := Ground.chain }, { on := 20, ground := Ground.guard }], guard := some (20, false) }) (v := ?_) rfl (by kernel_rfl) (by kernel_rfl) (by kernel_rfl) (fun _ _ _ h => h) (Or.inl ⟨by rfl, ?_⟩) (by assumption) ?_; rotate_left; · (intro wq hSw; (try dsimp only at hSw); go_simp; try (with_reducible rfl)))
              try simp only [Act.put, List.setIfInBounds_toArray, List.set_cons_zero, List.set_cons_succ]
              first
                | (refine wpAnyH_take (i := 23) (oi := { dst := some 204, op := Op.move (Operand.tmp 20), type := 3, pos := "law.go:96", after := #[{ on := 22, ground := Ground.guard }], guard := some (22, true) }) (v := undef) rfl (by kernel_rfl) (by kernel_rfl) (by kernel_rfl) (fun _ _ _ h => h) (Or.inr ⟨by rfl, rfl⟩) (by assumption) ?_)
                | (refine wpAnyH_take (i := 23) (oi := { dst := some 204, op := Op.move (Operand.tmp 20), type := 3, pos := "law.go:96", after := #[{ on := 22, ground := Ground.guard }], guard := some (22, true) }) (v := ?_) rfl (by kernel_rfl) (by kernel_rfl) (by kernel_rfl) (fun _ _ _ h => h) (Or.inl ⟨by rfl, ?_⟩) (by assumption) ?_; rotate_left; · (intro wq hSw; (try dsimp only at hSw); go_simp; try (with_reducible rfl)))
              try simp only [Act.put, List.setIfInBounds_toArray, List.set_cons_zero, List.set_cons_succ]
              first
                | (refine wpAnyH_take (i := 24) (oi := { dst := some 205, op := Op.fieldAddr 44 (Operand.tmp 14) 1, type := 0, pos := "law.go:96", after := #[{ on := 22, ground := Ground.guard }], guard := some (22, true) }) (v := undef) rfl (by kernel_rfl) (by kernel_rfl) (by kernel_rfl) (fun _ _ _ h => h) (Or.inr ⟨by rfl, rfl⟩) (by assumption) ?_)
                | (refine wpAnyH_take (i := 24) (oi := { dst := some 205, op := Op.fieldAddr 44 (Operand.tmp 14) 1, type := 0, pos := "law.go:96", after := #[{ on := 22, ground := Ground.guard }], guard := some (22, true) }) (v := ?_) rfl (by kernel_rfl) (by kernel_rfl) (by kernel_rfl) (fun _ _ _ h => h) (Or.inl ⟨by rfl, ?_⟩) (by assumption) ?_; rotate_left; · (intro wq hSw; (try dsimp only at hSw); go_simp; try (with_reducible rfl)))
              try simp only [Act.put, List.setIfInBounds_toArray, List.set_cons_zero, List.set_cons_succ]
              first
                | (refine wpAnyH_take (i := 25) (oi := { dst := some 206, op := Op.load 3 (Operand.tmp 205), type := 3, pos := "law.go:96", after := #[{ on := 24, ground := Ground.data }, { on := 22, ground := Ground.guard }], guard := some (22, true) }) (v := undef) rfl (by kernel_rfl) (by kernel_rfl) (by kernel_rfl) (fun _ _ _ h => h) (Or.inr ⟨by rfl, rfl⟩) (by assumption) ?_)
                | (refine wpAnyH_take (i := 25) (oi := { dst := some 206, op := Op.load 3 (Operand.tmp 205), type := 3, pos := "law.go:96", after := #[{ on := 24, ground := Ground.data }, { on := 22, ground := Ground.guard }], guard := some (22, true) }) (v := ?_) rfl (by kernel_rfl) (by kernel_rfl) (by kernel_rfl) (fun _ _ _ h => h) (Or.inl ⟨by rfl, ?_⟩) (by assumption) ?_; rotate_left; · (intro wq hSw; (try dsimp only at hSw); go_simp; try (with_reducible rfl)))
              try simp only [Act.put, List.setIfInBounds_toArray, List.set_cons_zero, List.set_cons_succ]
              first
                | (refine wpAnyH_take (i := 26) (oi := { dst := some 207, op := Op.fieldAddr 41 (Operand.tmp 11) 0, type := 0, pos := "law.go:96", after := #[{ on := 22, ground := Ground.guard }], guard := some (22, true) }) (v := undef) rfl (by kernel_rfl) (by kernel_rfl) (by kernel_rfl) (fun _ _ _ h => h) (Or.inr ⟨by rfl, rfl⟩) (by assumption) ?_)
                | (refine wpAnyH_take (i := 26) (oi := { dst := some 207, op := Op.fieldAddr 41 (Operand.tmp 11) 0, type := 0, pos := "law.go:96", after := #[{ on := 22, ground := Ground.guard }], guard := some (22, true) }) (v := ?_) rfl (by kernel_rfl) (by kernel_rfl) (by kernel_rfl) (fun _ _ _ h => h) (Or.inl ⟨by rfl, ?_⟩) (by assumption) ?_; rotate_left; · (intro wq hSw; (try dsimp only at hSw); go_simp; try (with_reducible rfl)))
              try simp only [Act.put, List.setIfInBounds_toArray, List.set_cons_zero, List.set_cons_succ]
              first
                | (refine wpAnyH_take (i := 27) (oi := { dst := some 208, op := Op.indexAddr 39 (Operand.tmp 207) (Operand.tmp 206), type := 0, pos := "law.go:96", after := #[{ on := 26, ground := Ground.data }, { on := 25, ground := Ground.data }, { on := 22, ground := Ground.guard }], guard := some (22, true) }) (v := undef) rfl (by kernel_rfl) (by kernel_rfl) (by kernel_rfl) (fun _ _ _ h => h) (Or.inr ⟨by rfl, rfl⟩) (by assumption) ?_)
                | (refine wpAnyH_take (i := 27) (oi := { dst := some 208, op := Op.indexAddr 39 (Operand.tmp 207) (Operand.tmp 206), type := 0, pos := "law.go:96", after := #[{ on := 26, ground := Ground.data }, { on := 25, ground := Ground.data }, { on := 22, ground := Ground.guard }], guard := some (22, true) }) (v := ?_) rfl (by kernel_rfl) (by kernel_rfl) (by kernel_rfl) (fun _ _ _ h => h) (Or.inl ⟨by rfl, ?_⟩) (by assumption) ?_; rotate_left; · (intro wq hSw; (try dsimp only at hSw); go_simp; try (with_reducible rfl)))
              try simp only [Act.put, List.setIfInBounds_toArray, List.set_cons_zero, List.set_cons_succ]
              first
                | (refine wpAnyH_take (i := 28) (oi := { dst := some 209, op := Op.load 3 (Operand.tmp 208), type := 3, pos := "law.go:96", after := #[{ on := 27, ground := Ground.data }, { on := 22, ground := Ground.guard }], guard := some (22, true) }) (v := undef) rfl (by kernel_rfl) (by kernel_rfl) (by kernel_rfl) (fun _ _ _ h => h) (Or.inr ⟨by rfl, rfl⟩) (by assumption) ?_)
                | (refine wpAnyH_take (i := 28) (oi := { dst := some 209, op := Op.load 3 (Operand.tmp 208), type := 3, pos := "law.go:96", after := #[{ on := 27, ground := Ground.data }, { on := 22, ground := Ground.guard }], guard := some (22, true) }) (v := ?_) rfl (by kernel_rfl) (by kernel_rfl) (by kernel_rfl) (fun _ _ _ h => h) (Or.inl ⟨by rfl, ?_⟩) (by assumption) ?_; rotate_left; · (intro wq hSw; (try dsimp only at hSw); go_simp; try (with_reducible rfl)))
              try simp only [Act.put, List.setIfInBounds_toArray, List.set_cons_zero, List.set_cons_succ]
              first
                | (refine wpAnyH_take (i := 29) (oi := { dst := some 210, op := Op.binOp BinOp.neq 3 (Operand.tmp 204) (Operand.tmp 209) 3, type := 4, pos := "law.go:96", after := #[{ on := 23, ground := Ground.data }, { on := 28, ground := Ground.data }, { on := 22, ground := Ground.guard }], guard := some (22, true) }) (v := undef) rfl (by kernel_rfl) (by kernel_rfl) (by kernel_rfl) (fun _ _ _ h => h) (Or.inr ⟨by rfl, rfl⟩) (by assumption) ?_)
                | (refine wpAnyH_take (i := 29) (oi := { dst := some 210, op := Op.binOp BinOp.neq 3 (Operand.tmp 204) (Operand.tmp 209) 3, type := 4, pos := "law.go:96", after := #[{ on := 23, ground := Ground.data }, { on := 28, ground := Ground.data }, { on := 22, ground := Ground.guard }], guard := some (22, true) }) (v := ?_) rfl (by kernel_rfl) (by kernel_rfl) (by kernel_rfl) (fun _ _ _ h => h) (Or.inl ⟨by rfl, ?_⟩) (by assumption) ?_; rotate_left; · (intro wq hSw; (try dsimp only at hSw); go_simp; try (with_reducible rfl)))
              try simp only [Act.put, List.setIfInBounds_toArray, List.set_cons_zero, List.set_cons_succ]
              first
                | (refine wpAnyH_take (i := 30) (oi := { dst := some 211, op := Op.pick (Operand.tmp 203) (Operand.tmp 210) (Operand.const (Value.bool false)), type := 4, pos := "law.go:96", after := #[{ on := 22, ground := Ground.data }, { on := 29, ground := Ground.data }, { on := 20, ground := Ground.guard }], guard := some (20, false) }) (v := undef) rfl (by kernel_rfl) (by kernel_rfl) (by kernel_rfl) (fun _ _ _ h => h) (Or.inr ⟨by rfl, rfl⟩) (by assumption) ?_)
                | (refine wpAnyH_take (i := 30) (oi := { dst := some 211, op := Op.pick (Operand.tmp 203) (Operand.tmp 210) (Operand.const (Value.bool false)), type := 4, pos := "law.go:96", after := #[{ on := 22, ground := Ground.data }, { on := 29, ground := Ground.data }, { on := 20, ground := Ground.guard }], guard := some (20, false) }) (v := ?_) rfl (by kernel_rfl) (by kernel_rfl) (by kernel_rfl) (fun _ _ _ h => h) (Or.inl ⟨by rfl, ?_⟩) (by assumption) ?_; rotate_left; · (intro wq hSw; (try dsimp only at hSw); go_simp; try (with_reducible rfl)))
              try simp only [Act.put, List.setIfInBounds_toArray, List.set_cons_zero, List.set_cons_succ]
              first
                | (refine wpAnyH_take (i := 31) (oi := { dst := some 212, op := Op.pick (Operand.tmp 201) (Operand.const (Value.bool true)) (Operand.tmp 211), type := 4, pos := "law.go:96", after := #[{ on := 20, ground := Ground.data }, { on := 30, ground := Ground.data }], guard := none }) (v := undef) rfl (by kernel_rfl) (by kernel_rfl) (by kernel_rfl) (fun _ _ _ h => h) (Or.inr ⟨by rfl, rfl⟩) (by assumption) ?_)
                | (refine wpAnyH_take (i := 31) (oi := { dst := some 212, op := Op.pick (Operand.tmp 201) (Operand.const (Value.bool true)) (Operand.tmp 211), type := 4, pos := "law.go:96", after := #[{ on := 20, ground := Ground.data }, { on := 30, ground := Ground.data }], guard := none }) (v := ?_) rfl (by kernel_rfl) (by kernel_rfl) (by kernel_rfl) (fun _ _ _ h => h) (Or.inl ⟨by rfl, ?_⟩) (by assumption) ?_; rotate_left; · (intro wq hSw; (try dsimp only at hSw); go_simp; try (with_reducible rfl)))
              try simp only [Act.put, List.setIfInBounds_toArray, List.set_cons_zero, List.set_cons_succ]
              first
                | (refine wpAnyH_take (i := 32) (oi := { dst := some 213, op := Op.move (Operand.tmp 212), type := 4, pos := "law.go:96", after := #[{ on := 31, ground := Ground.data }, { on := 22, ground := Ground.chain }], guard := none }) (v := undef) rfl (by kernel_rfl) (by kernel_rfl) (by kernel_rfl) (fun _ _ _ h => h) (Or.inr ⟨by rfl, rfl⟩) (by assumption) ?_)
                | (refine wpAnyH_take (i := 32) (oi := { dst := some 213, op := Op.move (Operand.tmp 212), type := 4, pos := "law.go:96", after := #[{ on := 31, ground := Ground.data }, { on := 22, ground := Ground.chain }], guard := none }) (v := ?_) rfl (by kernel_rfl) (by kernel_rfl) (by kernel_rfl) (fun _ _ _ h => h) (Or.inl ⟨by rfl, ?_⟩) (by assumption) ?_; rotate_left; · (intro wq hSw; (try dsimp only at hSw); go_simp; try (with_reducible rfl)))
              try simp only [Act.put, List.setIfInBounds_toArray, List.set_cons_zero, List.set_cons_succ]
              first
                | (refine wpAnyH_take (i := 33) (oi := { dst := some 214, op := Op.move (Operand.tmp 23), type := 4, pos := "law.go:96", after := #[{ on := 32, ground := Ground.guard }], guard := some (32, false) }) (v := undef) rfl (by kernel_rfl) (by kernel_rfl) (by kernel_rfl) (fun _ _ _ h => h) (Or.inr ⟨by rfl, rfl⟩) (by assumption) ?_)
                | (refine wpAnyH_take (i := 33) (oi := { dst := some 214, op := Op.move (Operand.tmp 23), type := 4, pos := "law.go:96", after := #[{ on := 32, ground := Ground.guard }], guard := some (32, false) }) (v := ?_) rfl (by kernel_rfl) (by kernel_rfl) (by kernel_rfl) (fun _ _ _ h => h) (Or.inl ⟨by rfl, ?_⟩) (by assumption) ?_; rotate_left; · (intro wq hSw; (try dsimp only at hSw); go_simp; try (with_reducible rfl)))
              try simp only [Act.put, List.setIfInBounds_toArray, List.set_cons_zero, List.set_cons_succ]
              first
                | (refine wpAnyH_take (i := 34) (oi := { dst := some 215, op := Op.move (Operand.tmp 25), type := 3, pos := "law.go:96", after := #[{ on := 32, ground := Ground.guard }], guard := some (32, false) }) (v := undef) rfl (by kernel_rfl) (by kernel_rfl) (by kernel_rfl) (fun _ _ _ h => h) (Or.inr ⟨by rfl, rfl⟩) (by assumption) ?_)
                | (refine wpAnyH_take (i := 34) (oi := { dst := some 215, op := Op.move (Operand.tmp 25), type := 3, pos := "law.go:96", after := #[{ on := 32, ground := Ground.guard }], guard := some (32, false) }) (v := ?_) rfl (by kernel_rfl) (by kernel_rfl) (by kernel_rfl) (fun _ _ _ h => h) (Or.inl ⟨by rfl, ?_⟩) (by assumption) ?_; rotate_left; · (intro wq hSw; (try dsimp only at hSw); go_simp; try (with_reducible rfl)))
              try simp only [Act.put, List.setIfInBounds_toArray, List.set_cons_zero, List.set_cons_succ]
              first
                | (refine wpAnyH_take (i := 35) (oi := { dst := some 216, op := Op.binOp BinOp.geq 3 (Operand.tmp 215) (Operand.const (Value.int IntKind.i64 0)) 3, type := 4, pos := "law.go:96", after := #[{ on := 34, ground := Ground.data }, { on := 32, ground := Ground.guard }], guard := some (32, false) }) (v := undef) rfl (by kernel_rfl) (by kernel_rfl) (by kernel_rfl) (fun _ _ _ h => h) (Or.inr ⟨by rfl, rfl⟩) (by assumption) ?_)
                | (refine wpAnyH_take (i := 35) (oi := { dst := some 216, op := Op.binOp BinOp.geq 3 (Operand.tmp 215) (Operand.const (Value.int IntKind.i64 0)) 3, type := 4, pos := "law.go:96", after := #[{ on := 34, ground := Ground.data }, { on := 32, ground := Ground.guard }], guard := some (32, false) }) (v := ?_) rfl (by kernel_rfl) (by kernel_rfl) (by kernel_rfl) (fun _ _ _ h => h) (Or.inl ⟨by rfl, ?_⟩) (by assumption) ?_; rotate_left; · (intro wq hSw; (try dsimp only at hSw); go_simp; try (with_reducible rfl)))
              try simp only [Act.put, List.setIfInBounds_toArray, List.set_cons_zero, List.set_cons_succ]
              first
                | (refine wpAnyH_take (i := 36) (oi := { dst := some 217, op := Op.binOp BinOp.neq 4 (Operand.tmp 214) (Operand.tmp 216) 4, type := 4, pos := "law.go:96", after := #[{ on := 33, ground := Ground.data }, { on := 35, ground := Ground.data }, { on := 32, ground := Ground.guard }], guard := some (32, false) }) (v := undef) rfl (by kernel_rfl) (by kernel_rfl) (by kernel_rfl) (fun _ _ _ h => h) (Or.inr ⟨by rfl, rfl⟩) (by assumption) ?_)
                | (refine wpAnyH_take (i := 36) (oi := { dst := some 217, op := Op.binOp BinOp.neq 4 (Operand.tmp 214) (Operand.tmp 216) 4, type := 4, pos := "law.go:96", after := #[{ on := 33, ground := Ground.data }, { on := 35, ground := Ground.data }, { on := 32, ground := Ground.guard }], guard := some (32, false) }) (v := ?_) rfl (by kernel_rfl) (by kernel_rfl) (by kernel_rfl) (fun _ _ _ h => h) (Or.inl ⟨by rfl, ?_⟩) (by assumption) ?_; rotate_left; · (intro wq hSw; (try dsimp only at hSw); go_simp; try (with_reducible rfl)))
              try simp only [Act.put, List.setIfInBounds_toArray, List.set_cons_zero, List.set_cons_succ]
              first
                | (refine wpAnyH_take (i := 37) (oi := { dst := some 218, op := Op.pick (Operand.tmp 213) (Operand.const (Value.bool true)) (Operand.tmp 217), type := 4, pos := "law.go:96", after := #[{ on := 32, ground := Ground.data }, { on := 36, ground := Ground.data }], guard := none }) (v := undef) rfl (by kernel_rfl) (by kernel_rfl) (by kernel_rfl) (fun _ _ _ h => h) (Or.inr ⟨by rfl, rfl⟩) (by assumption) ?_)
                | (refine wpAnyH_take (i := 37) (oi := { dst := some 218, op := Op.pick (Operand.tmp 213) (Operand.const (Value.bool true)) (Operand.tmp 217), type := 4, pos := "law.go:96", after := #[{ on := 32, ground := Ground.data }, { on := 36, ground := Ground.data }], guard := none }) (v := ?_) rfl (by kernel_rfl) (by kernel_rfl) (by kernel_rfl) (fun _ _ _ h => h) (Or.inl ⟨by rfl, ?_⟩) (by assumption) ?_; rotate_left; · (intro wq hSw; (try dsimp only at hSw); go_simp; try (with_reducible rfl)))
              try simp only [Act.put, List.setIfInBounds_toArray, List.set_cons_zero, List.set_cons_succ]
              first
                | (refine wpAnyH_take (i := 38) (oi := { dst := some 219, op := Op.move (Operand.tmp 218), type := 4, pos := "law.go:96", after := #[{ on := 37, ground := Ground.data }, { on := 32, ground := Ground.chain }], guard := none }) (v := undef) rfl (by kernel_rfl) (by kernel_rfl) (by kernel_rfl) (fun _ _ _ h => h) (Or.inr ⟨by rfl, rfl⟩) (by assumption) ?_)
                | (refine wpAnyH_take (i := 38) (oi := { dst := some 219, op := Op.move (Operand.tmp 218), type := 4, pos := "law.go:96", after := #[{ on := 37, ground := Ground.data }, { on := 32, ground := Ground.chain }], guard := none }) (v := ?_) rfl (by kernel_rfl) (by kernel_rfl) (by kernel_rfl) (fun _ _ _ h => h) (Or.inl ⟨by rfl, ?_⟩) (by assumption) ?_; rotate_left; · (intro wq hSw; (try dsimp only at hSw); go_simp; try (with_reducible rfl)))
              try simp only [Act.put, List.setIfInBounds_toArray, List.set_cons_zero, List.set_cons_succ]
              first
                | (refine wpAnyH_take (i := 39) (oi := { dst := some 220, op := Op.move (Operand.tmp 22), type := 3, pos := "law.go:96", after := #[{ on := 38, ground := Ground.guard }], guard := some (38, false) }) (v := undef) rfl (by kernel_rfl) (by kernel_rfl) (by kernel_rfl) (fun _ _ _ h => h) (Or.inr ⟨by rfl, rfl⟩) (by assumption) ?_)
                | (refine wpAnyH_take (i := 39) (oi := { dst := some 220, op := Op.move (Operand.tmp 22), type := 3, pos := "law.go:96", after := #[{ on := 38, ground := Ground.guard }], guard := some (38, false) }) (v := ?_) rfl (by kernel_rfl) (by kernel_rfl) (by kernel_rfl) (fun _ _ _ h => h) (Or.inl ⟨by rfl, ?_⟩) (by assumption) ?_; rotate_left; · (intro wq hSw; (try dsimp only at hSw); go_simp; try (with_reducible rfl)))
              try simp only [Act.put, List.setIfInBounds_toArray, List.set_cons_zero, List.set_cons_succ]
              first
                | (refine wpAnyH_take (i := 40) (oi := { dst := some 221, op := Op.move (Operand.tmp 25), type := 3, pos := "law.go:96", after := #[{ on := 38, ground := Ground.guard }], guard := some (38, false) }) (v := undef) rfl (by kernel_rfl) (by kernel_rfl) (by kernel_rfl) (fun _ _ _ h => h) (Or.inr ⟨by rfl, rfl⟩) (by assumption) ?_)
                | (refine wpAnyH_take (i := 40) (oi := { dst := some 221, op := Op.move (Operand.tmp 25), type := 3, pos := "law.go:96", after := #[{ on := 38, ground := Ground.guard }], guard := some (38, false) }) (v := ?_) rfl (by kernel_rfl) (by kernel_rfl) (by kernel_rfl) (fun _ _ _ h => h) (Or.inl ⟨by rfl, ?_⟩) (by assumption) ?_; rotate_left; · (intro wq hSw; (try dsimp only at hSw); go_simp; try (with_reducible rfl)))
              try simp only [Act.put, List.setIfInBounds_toArray, List.set_cons_zero, List.set_cons_succ]
              first
                | (refine wpAnyH_take (i := 41) (oi := { dst := some 222, op := Op.call { callee := Callee.builtin Builtin.max, args := #[Operand.const (Value.int IntKind.i64 0), Operand.tmp 221], argTypes := #[3, 3] }, type := 3, pos := "law.go:96", after := #[{ on := 40, ground := Ground.data }, { on := 38, ground := Ground.guard }], guard := some (38, false) }) (v := undef) rfl (by kernel_rfl) (by kernel_rfl) (by kernel_rfl) (fun _ _ _ h => h) (Or.inr ⟨by rfl, rfl⟩) (by assumption) ?_)
                | (refine wpAnyH_take (i := 41) (oi := { dst := some 222, op := Op.call { callee := Callee.builtin Builtin.max, args := #[Operand.const (Value.int IntKind.i64 0), Operand.tmp 221], argTypes := #[3, 3] }, type := 3, pos := "law.go:96", after := #[{ on := 40, ground := Ground.data }, { on := 38, ground := Ground.guard }], guard := some (38, false) }) (v := ?_) rfl (by kernel_rfl) (by kernel_rfl) (by kernel_rfl) (fun _ _ _ h => h) (Or.inl ⟨by rfl, ?_⟩) (by assumption) ?_; rotate_left; · (intro wq hSw; (try dsimp only at hSw); go_simp; try (with_reducible rfl)))
              try simp only [Act.put, List.setIfInBounds_toArray, List.set_cons_zero, List.set_cons_succ]
              first
                | (refine wpAnyH_take (i := 42) (oi := { dst := some 223, op := Op.binOp BinOp.neq 3 (Operand.tmp 220) (Operand.tmp 222) 3, type := 4, pos := "law.go:96", after := #[{ on := 39, ground := Ground.data }, { on := 41, ground := Ground.data }, { on := 38, ground := Ground.guard }], guard := some (38, false) }) (v := undef) rfl (by kernel_rfl) (by kernel_rfl) (by kernel_rfl) (fun _ _ _ h => h) (Or.inr ⟨by rfl, rfl⟩) (by assumption) ?_)
                | (refine wpAnyH_take (i := 42) (oi := { dst := some 223, op := Op.binOp BinOp.neq 3 (Operand.tmp 220) (Operand.tmp 222) 3, type := 4, pos := "law.go:96", after := #[{ on := 39, ground := Ground.data }, { on := 41, ground := Ground.data }, { on := 38, ground := Ground.guard }], guard := some (38, false) }) (v := ?_) rfl (by kernel_rfl) (by kernel_rfl) (by kernel_rfl) (fun _ _ _ h => h) (Or.inl ⟨by rfl, ?_⟩) (by assumption) ?_; rotate_left; · (intro wq hSw; (try dsimp only at hSw); go_simp; try (with_reducible rfl)))
              try simp only [Act.put, List.setIfInBounds_toArray, List.set_cons_zero, List.set_cons_succ]
              first
                | (refine wpAnyH_take (i := 43) (oi := { dst := some 224, op := Op.pick (Operand.tmp 219) (Operand.const (Value.bool true)) (Operand.tmp 223), type := 4, pos := "law.go:96", after := #[{ on := 38, ground := Ground.data }, { on := 42, ground := Ground.data }], guard := none }) (v := undef) rfl (by kernel_rfl) (by kernel_rfl) (by kernel_rfl) (fun _ _ _ h => h) (Or.inr ⟨by rfl, rfl⟩) (by assumption) ?_)
                | (refine wpAnyH_take (i := 43) (oi := { dst := some 224, op := Op.pick (Operand.tmp 219) (Operand.const (Value.bool true)) (Operand.tmp 223), type := 4, pos := "law.go:96", after := #[{ on := 38, ground := Ground.data }, { on := 42, ground := Ground.data }], guard := none }) (v := ?_) rfl (by kernel_rfl) (by kernel_rfl) (by kernel_rfl) (fun _ _ _ h => h) (Or.inl ⟨by rfl, ?_⟩) (by assumption) ?_; rotate_left; · (intro wq hSw; (try dsimp only at hSw); go_simp; try (with_reducible rfl)))
              try simp only [Act.put, List.setIfInBounds_toArray, List.set_cons_zero, List.set_cons_succ]
              refine wpAnyH_done (by kernel_rfl) ?_ _
              go_wp2
              go_roundg k
              case measure => omega
              case rel => exact ⟨i + 1, L2, q2, rfl, by first | rw [ws.out] | rfl, HQ2, ⟨by have := HK.out; omega⟩, ⟨HI3.out.below (by repeat (first | exact Below.refl _ _ | refine pw_below_drewN ?_ _ | refine below_drew ?_))⟩⟩
          · by_cases hn1 : x.f1 < 96
            · obtain ⟨n, hn⟩ : ∃ n : Nat, x.f1 = (n : Int) := ⟨x.f1.toNat, by omega⟩
              have hnl : n < 96 := by omega
              rw [hn] at y1 hPg
              clear hn hn0 hn1
              have g1 : decide ((n : Int) ≥ 0) = true := decide_eq_true (by omega)
              have g1' : decide ((0 : Int) ≤ (n : Int)) = true := decide_eq_true (by omega)
              have g2 : decide ((n : Int) < 96) = true := decide_eq_true (by omega)
              have g3 : decide (n < 96) = true := decide_eq_true hnl
              have j0 : (0 : Int) ≤ (n : Int) := by omega
              have j1 : (n : Int) < 96 := by omega
              have hmx2 : (if 0 < n then (n : Int) else 0) = (n : Int) := by
                by_cases h1 : 0 < n
                · rw [if_pos h1]
                · rw [if_neg h1]; omega
              have hmod : Int.tmod (n : Int) 96 = (n : Int) := by rw [Int.tmod_eq_emod_of_nonneg (by omega)]; omega
              have kn := ints_cell HI2.out.ps n (by rw [hP2l.out]; omega)
              obtain ⟨pn, hpn2⟩ : ∃ pn, pn = (pOf L2).getD n 0 := ⟨_, rfl⟩
              rw [← hpn2] at kn
              have hih := inC_hi hgl.len (f := (n : Int)) j0 j1
              rw [Int.toNat_natCast, ← hpn2] at hih
              rw [pOf_get hgl.len hnl] at hpn2
              cases hic : inC L2 (n : Int) with
              | true =>
                rw [hic] at hih
                have g4 : decide (pn ≥ 0) = true := hih
                have hpv : pgV L2 (n : Int) = pn := by unfold pgV; rw [hic, if_pos rfl, Int.toNat_natCast]; exact hpn2.symm
                rw [hic, hpv] at hPg
                clear hpv hic hpn2 hgl
                as_aux_lemma =>
                  replace hPg := Aside0.mk hPg
                  have hps := Aside0.mk HI2.out.ps
                  obtain ⟨P, hP⟩ : ∃ P, P = pOf L2 := ⟨_, rfl⟩
                  rw [← hP] at hps hP2l hRF
                  replace hP := Aside0.mk hP
                  go_upto_region 36 with (first | ((with_reducible refine gate_ld rfl ?_); refine wl_ld rfl _ rfl rfl hps.out hP2l.out ?_) | (go_at_call 13; refine hPg.out.mono ?_; rintro e w1 ⟨rfl, h1⟩; replace h1 := h1.symm; subst h1) | (go_at_call 14; refine hFr.out.mono ?_; rintro e w1 ⟨rfl, h1⟩; replace h1 := h1.symm; subst h1) | (go_at_call 21; refine hRF.out.mono ?_; rintro e w10 ⟨rfl, hb10⟩; replace hb10 := Aside0.mk hb10))
                  have HI3 := Aside0.mk (HI2.out.below hb10.out)
                  have kh3 := cell_bel hb10.out kh
                  have y13 := cell_bel hb10.out y1
                  have kn3 := cell_bel hb10.out kn
                  clear kh y1 y2 hps kn
                  have hLn := fun (w' : World) (hb : Below w10.heap.size w10 w') => len_calls g L2 hLl.out w' (blk_below HI3.out.cs hb)
                  have hHn := fun (w' : World) (hb : Below w10.heap.size w10 w') => hand_calls g L2 hLl.out w' (blk_below HI3.out.cs hb)
                  rw [← HQ2.out] at hLn
                  rw [← hhv.out] at hHn
                  replace hLn := Aside0.mk hLn
                  replace hHn := Aside0.mk hHn
                  refine wp_region_held_drew (S := fun w' : World => w'.cell? ⟨p, 1, none⟩ = some (.int .i64 (n : Int)) ∧ w'.cell? ⟨b, n, none⟩ = some (.int .i64 pn) ∧ w'.cell? ⟨b, 96, none⟩ = some (.int .i64 hv)) (by kernel_rfl) ⟨y13, kn3, kh3⟩ (fun hHeld => ?_)
                  first
                    | (refine wpAnyH_take (i := 0) (oi := { dst := some 181, op := Op.move (Operand.tmp 15), type := 4, pos := "law.go:96", after := #[], guard := none }) (v := undef) rfl (by kernel_rfl) (by kernel_rfl) (by kernel_rfl) (fun _ _ _ h => h) (Or.inr ⟨by rfl, rfl⟩) (by assumption) ?_)
                    | (refine wpAnyH_take (i := 0) (oi := { dst := some 181, op := Op.move (Operand.tmp 15), type := 4, pos := "law.go:96", after := #[], guard := none }) (v := ?_) rfl (by kernel_rfl) (by kernel_rfl) (by kernel_rfl) (fun _ _ _ h => h) (Or.inl ⟨by rfl, ?_⟩) (by assumption) ?_; rotate_left; · (intro wq hSw; (try dsimp only at hSw); go_simp; try (with_reducible rfl)))
                  try simp only [Act.put, List.setIfInBounds_toArray, List.set_cons_zero, List.set_cons_succ]
                  first
                    | (refine wpAnyH_take (i := 1) (oi := { dst := some 182, op := Op.unOp UnOp.not 4 (Operand.tmp 181), type := 4, pos := "law.go:96", after := #[{ on := 0, ground := Ground.data }], guard := none }) (v := undef) rfl (by kernel_rfl) (by kernel_rfl) (by kernel_rfl) (fun _ _ _ h => h) (Or.inr ⟨by rfl, rfl⟩) (by assumption) ?_)
                    | (refine wpAnyH_take (i := 1) (oi := { dst := some 182, op := Op.unOp UnOp.not 4 (Operand.tmp 181), type := 4, pos := "law.go:96", after := #[{ on := 0, ground := Ground.data }], guard := none }) (v := ?_) rfl (by kernel_rfl) (by kernel_rfl) (by kernel_rfl) (fun _ _ _ h => h) (Or.inl ⟨by rfl, ?_⟩) (by assumption) ?_; rotate_left; · (intro wq hSw; (try dsimp only at hSw); go_simp; try (with_reducible rfl)))
                  try simp only [Act.put, List.setIfInBounds_toArray, List.set_cons_zero, List.set_cons_succ]
                  first
                    | (refine wpAnyH_take (i := 2) (oi := { dst := some 183, op := Op.move (Operand.tmp 182), type := 4, pos := "law.go:96", after := #[{ on := 1, ground := Ground.data }], guard := none }) (v := undef) rfl (by kernel_rfl) (by kernel_rfl) (by kernel_rfl) (fun _ _ _ h => h) (Or.inr ⟨by rfl, rfl⟩) (by assumption) ?_)
                    | (refine wpAnyH_take (i := 2) (oi := { dst := some 183, op := Op.move (Operand.tmp 182), type := 4, pos := "law.go:96", after := #[{ on := 1, ground := Ground.data }], guard := none }) (v := ?_) rfl (by kernel_rfl) (by kernel_rfl) (by kernel_rfl) (fun _ _ _ h => h) (Or.inl ⟨by rfl, ?_⟩) (by assumption) ?_; rotate_left; · (intro wq hSw; (try dsimp only at hSw); go_simp; try (with_reducible rfl)))
                  try simp only [Act.put, List.setIfInBounds_toArray, List.set_cons_zero, List.set_cons_succ]
                  first
                    | (refine wpAnyH_take (i := 3) (oi := { dst := some 184, op := Op.move (Operand.tmp 10), type := 24, pos := "law.go:96", after := #[{ on := 2, ground := Ground.guard }], guard := some (2, false) }) (v := undef) rfl (by kernel_rfl) (by kernel_rfl) (by kernel_rfl) (fun _ _ _ h => h) (Or.inr ⟨by rfl, rfl⟩) (by assumption) ?_)
                    | (refine wpAnyH_take (i := 3) (oi := { dst := some 184, op := Op.move (Operand.tmp 10), type := 24, pos := "law.go:96", after := #[{ on := 2, ground := Ground.guard }], guard := some (2, false) }) (v := ?_) rfl (by kernel_rfl) (by kernel_rfl) (by kernel_rfl) (fun _ _ _ h => h) (Or.inl ⟨by rfl, ?_⟩) (by assumption) ?_; rotate_left; · (intro wq hSw; (try dsimp only at hSw); go_simp; try (with_reducible rfl)))
                  try simp only [Act.put, List.setIfInBounds_toArray, List.set_cons_zero, List.set_cons_succ]
                  first
                    | (refine wpAnyH_take (i := 5) (oi := { dst := some 186, op := Op.move (Operand.tmp 12), type := 3, pos := "law.go:96", after := #[{ on := 2, ground := Ground.guard }], guard := some (2, false) }) (v := undef) rfl (by kernel_rfl) (by kernel_rfl) (by kernel_rfl) (fun _ _ _ h => h) (Or.inr ⟨by rfl, rfl⟩) (by assumption) ?_)
                    | (refine wpAnyH_take (i := 5) (oi := { dst := some 186, op := Op.move (Operand.tmp 12), type := 3, pos := "law.go:96", after := #[{ on := 2, ground := Ground.guard }], guard := some (2, false) }) (v := ?_) rfl (by kernel_rfl) (by kernel_rfl) (by kernel_rfl) (fun _ _ _ h => h) (Or.inl ⟨by rfl, ?_⟩) (by assumption) ?_; rotate_left; · (intro wq hSw; (try dsimp only at hSw); go_simp; try (with_reducible rfl)))
                  try simp only [Act.put, List.setIfInBounds_toArray, List.set_cons_zero, List.set_cons_succ]
                  refine wpAnyH_ready (rs := [4]) (by kernel_rfl) (by simp) ?_
                  refine AllReadyH.cons (o := { dst := some 185, op := Op.call { callee := Callee.value (Operand.func 12), args := #[Operand.tmp 184], argTypes := #[24] }, type := 3, pos := "law.go:96", after := #[{ on := 3, ground := Ground.data }, { on := 2, ground := Ground.chain }, { on := 2, ground := Ground.guard }], guard := some (2, false) }) rfl (fun K hK => ?_) ?_
                  rotate_left
                  · exact AllReadyH.nil
                  go_simp
                  go_at_call 12
                  refine (hLn.out _ (by repeat (first | exact Below.refl _ _ | refine pw_below_drewN ?_ _ | refine below_drew ?_))).mono ?_
                  rintro e w11 ⟨rfl, h1⟩
                  replace h1 := h1.symm
                  subst h1
                  refine hK.out _ _ ?_ (fun hHeld => ?_)
                  · exact hHeld
                  clear hK K
                  try simp only [Act.put, List.setIfInBounds_toArray, List.set_cons_zero, List.set_cons_succ]
                  first
                    | (refine wpAnyH_take (i := 6) (oi := { dst := some 187, op := Op.binOp BinOp.neq 3 (Operand.tmp 185) (Operand.tmp 186) 3, type := 4, pos := "law.go:96", after := #[{ on := 4, ground := Ground.data }, { on := 5, ground := Ground.data }, { on := 2, ground := Ground.guard }], guard := some (2, false) }) (v := undef) rfl (by kernel_rfl) (by kernel_rfl) (by kernel_rfl) (fun _ _ _ h => h) (Or.inr ⟨by rfl, rfl⟩) (by assumption) ?_)
                    | (refine wpAnyH_take (i := 6) (oi := { dst := some 187, op := Op.binOp BinOp.neq 3 (Operand.tmp 185) (Operand.tmp 186) 3, type := 4, pos := "law.go:96", after := #[{ on := 4, ground := Ground.data }, { on := 5, ground := Ground.data }, { on := 2, ground := Ground.guard }], guard := some (2, false) }) (v := ?_) rfl (by kernel_rfl) (by kernel_rfl) (by kernel_rfl) (fun _ _ _ h => h) (Or.inl ⟨by rfl, ?_⟩) (by assumption) ?_; rotate_left; · (intro wq hSw; (try dsimp only at hSw); go_simp; try (with_reducible rfl)))
                  try simp only [Act.put, List.setIfInBounds_toArray, List.set_cons_zero, List.set_cons_succ]
                  first
                    | (refine wpAnyH_take (i := 7) (oi := { dst := some 188, op := Op.pick (Operand.tmp 183) (Operand.const (Value.bool true)) (Operand.tmp 187), type := 4, pos := "law.go:96", after := #[{ on := 2, ground := Ground.data }, { on := 6, ground := Ground.data }], guard := none }) (v := undef) rfl (by kernel_rfl) (by kernel_rfl) (by kernel_rfl) (fun _ _ _ h => h) (Or.inr ⟨by rfl, rfl⟩) (by assumption) ?_)
                    | (refine wpAnyH_take (i := 7) (oi := { dst := some 188, op := Op.pick (Operand.tmp 183) (Operand.const (Value.bool true)) (Operand.tmp 187), type := 4, pos := "law.go:96", after := #[{ on := 2, ground := Ground.data }, { on := 6, ground := Ground.data }], guard := none }) (v := ?_) rfl (by kernel_rfl) (by kernel_rfl) (by kernel_rfl) (fun _ _ _ h => h) (Or.inl ⟨by rfl, ?_⟩) (by assumption) ?_; rotate_left; · (intro wq hSw; (try dsimp only at hSw); go_simp; try (with_reducible rfl)))
                  try simp only [Act.put, List.setIfInBounds_toArray, List.set_cons_zero, List.set_cons_succ]
                  first
                    | (refine wpAnyH_take (i := 8) (oi := { dst := some 189, op := Op.move (Operand.tmp 188), type := 4, pos := "law.go:96", after := #[{ on := 7, ground := Ground.data }, { on := 4, ground := Ground.chain }], guard := none }) (v := undef) rfl (by kernel_rfl) (by kernel_rfl) (by kernel_rfl) (fun _ _ _ h => h) (Or.inr ⟨by rfl, rfl⟩) (by assumption) ?_)
                    | (refine wpAnyH_take (i := 8) (oi := { dst := some 189, op := Op.move (Operand.tmp 188), type := 4, pos := "law.go:96", after := #[{ on := 7, ground := Ground.data }, { on := 4, ground := Ground.chain }], guard := none }) (v := ?_) rfl (by kernel_rfl) (by kernel_rfl) (by kernel_rfl) (fun _ _ _ h => h) (Or.inl ⟨by rfl, ?_⟩) (by assumption) ?_; rotate_left; · (intro wq hSw; (try dsimp only at hSw); go_simp; try (with_reducible rfl)))
                  try simp only [Act.put, List.setIfInBounds_toArray, List.set_cons_zero, List.set_cons_succ]
                  first
                    | (refine wpAnyH_take (i := 9) (oi := { dst := some 190, op := Op.move (Operand.tmp 10), type := 24, pos := "law.go:96", after := #[{ on := 8, ground := Ground.guard }], guard := some (8, false) }) (v := undef) rfl (by kernel_rfl) (by kernel_rfl) (by kernel_rfl) (fun _ _ _ h => h) (Or.inr ⟨by rfl, rfl⟩) (by assumption) ?_)
                    | (refine wpAnyH_take (i := 9) (oi := { dst := some 190, op := Op.move (Operand.tmp 10), type := 24, pos := "law.go:96", after := #[{ on := 8, ground := Ground.guard }], guard := some (8, false) }) (v := ?_) rfl (by kernel_rfl) (by kernel_rfl) (by kernel_rfl) (fun _ _ _ h => h) (Or.inl ⟨by rfl, ?_⟩) (by assumption) ?_; rotate_left; · (intro wq hSw; (try dsimp only at hSw); go_simp; try (with_reducible rfl)))
                  try simp only [Act.put, List.setIfInBounds_toArray, List.set_cons_zero, List.set_cons_succ]
                  first
                    | (refine wpAnyH_take (i := 11) (oi := { dst := some 192, op := Op.fieldAddr 41 (Operand.tmp 11) 1, type := 0, pos := "law.go:96", after := #[{ on := 8, ground := Ground.guard }], guard := some (8, false) }) (v := undef) rfl (by kernel_rfl) (by kernel_rfl) (by kernel_rfl) (fun _ _ _ h => h) (Or.inr ⟨by rfl, rfl⟩) (by assumption) ?_)
                    | (refine wpAnyH_take (i := 11) (oi := { dst := some 192, op := Op.fieldAddr 41 (Operand.tmp 11) 1, type := 0, pos := "law.go:96", after := #[{ on := 8, ground := Ground.guard }], guard := some (8, false) }) (v := ?_) rfl (by kernel_rfl) (by kernel_rfl) (by kernel_rfl) (fun _ _ _ h => h) (Or.inl ⟨by rfl, ?_⟩) (by assumption) ?_; rotate_left; · (intro wq hSw; (try dsimp only at hSw); go_simp; try (with_reducible rfl)))
                  try simp only [Act.put, List.setIfInBounds_toArray, List.set_cons_zero, List.set_cons_succ]
                  first
                    | (refine wpAnyH_take (i := 12) (oi := { dst := some 193, op := Op.load 3 (Operand.tmp 192), type := 3, pos := "law.go:96", after := #[{ on := 11, ground := Ground.data }, { on := 8, ground := Ground.guard }], guard := some (8, false) }) (v := undef) rfl (by kernel_rfl) (by kernel_rfl) (by kernel_rfl) (fun _ _ _ h => h) (Or.inr ⟨by rfl, rfl⟩) (by assumption) ?_)
                    | (refine wpAnyH_take (i := 12) (oi := { dst := some 193, op := Op.load 3 (Operand.tmp 192), type := 3, pos := "law.go:96", after := #[{ on := 11, ground := Ground.data }, { on := 8, ground := Ground.guard }], guard := some (8, false) }) (v := ?_) rfl (by kernel_rfl) (by kernel_rfl) (by kernel_rfl) (fun _ _ _ h => h) (Or.inl ⟨by rfl, ?_⟩) (by assumption) ?_; rotate_left; · (intro wq hSw; (try dsimp only at hSw); go_simp; try (with_reducible rfl)))
                  try simp only [Act.put, List.setIfInBounds_toArray, List.set_cons_zero, List.set_cons_succ]
                  refine wpAnyH_ready (rs := [10]) (by kernel_rfl) (by simp) ?_
                  refine AllReadyH.cons (o := { dst := some 191, op := Op.call { callee := Callee.value (Operand.func 9), args := #[Operand.tmp 190], argTypes := #[24] }, type := 3, pos := "law.go:96", after := #[{ on := 9, ground := Ground.data }, { on := 8, ground := Ground.chain }, { on := 8, ground := Ground.guard }], guard := some (8, false) }) rfl (fun K hK => ?_) ?_
                  rotate_left
                  · exact AllReadyH.nil
                  go_simp
                  go_at_call 9
                  refine (hHn.out _ (by repeat (first | exact Below.refl _ _ | refine pw_below_drewN ?_ _ | refine below_drew ?_))).mono ?_
                  rintro e w11 ⟨rfl, h1⟩
                  replace h1 := h1.symm
                  subst h1
                  refine hK.out _ _ ?_ (fun hHeld => ?_)
                  · exact hHeld
                  clear hK K
                  try simp only [Act.put, List.setIfInBounds_toArray, List.set_cons_zero, List.set_cons_succ]
                  first
                    | (refine wpAnyH_take (i := 13) (oi := { dst := some 194, op := Op.binOp BinOp.neq 3 (Operand.tmp 191) (Operand.tmp 193) 3, type := 4, pos := "law.go:96", after := #[{ on := 10, ground := Ground.data }, { on := 12, ground := Ground.data }, { on := 8, ground := Ground.guard }], guard := some (8, false) }) (v := undef) rfl (by kernel_rfl) (by kernel_rfl) (by kernel_rfl) (fun _ _ _ h => h) (Or.inr ⟨by rfl, rfl⟩) (by assumption) ?_)
                    | (refine wpAnyH_take (i := 13) (oi := { dst := some 194, op := Op.binOp BinOp.neq 3 (Operand.tmp 191) (Operand.tmp 193) 3, type := 4, pos := "law.go:96", after := #[{ on := 10, ground := Ground.data }, { on := 12, ground := Ground.data }, { on := 8, ground := Ground.guard }], guard := some (8, false) }) (v := ?_) rfl (by kernel_rfl) (by kernel_rfl) (by kernel_rfl) (fun _ _ _ h => h) (Or.inl ⟨by rfl, ?_⟩) (by assumption) ?_; rotate_left; · (intro wq hSw; (try dsimp only at hSw); go_simp; try (with_reducible rfl)))
                  try simp only [Act.put, List.setIfInBounds_toArray, List.set_cons_zero, List.set_cons_succ]
                  first
                    | (refine wpAnyH_take (i := 14) (oi := { dst := some 195, op := Op.pick (Operand.tmp 189) (Operand.const (Value.bool true)) (Operand.tmp 194), type := 4, pos := "law.go:96", after := #[{ on := 8, ground := Ground.data }, { on := 13, ground := Ground.data }], guard := none }) (v := undef) rfl (by kernel_rfl) (by kernel_rfl) (by kernel_rfl) (fun _ _ _ h => h) (Or.inr ⟨by rfl, rfl⟩) (by assumption) ?_)
                    | (refine wpAnyH_take (i := 14) (oi := { dst := some 195, op := Op.pick (Operand.tmp 189) (Operand.const (Value.bool true)) (Operand.tmp 194), type := 4, pos := "law.go:96", after := #[{ on := 8, ground := Ground.data }, { on := 13, ground := Ground.data }], guard := none }) (v := ?_) rfl (by kernel_rfl) (by kernel_rfl) (by kernel_rfl) (fun _ _ _ h => h) (Or.inl ⟨by rfl, ?_⟩) (by assumption) ?_; rotate_left; · (intro wq hSw; (try dsimp only at hSw); go_simp; try (with_reducible rfl)))
                  try simp only [Act.put, List.setIfInBounds_toArray, List.set_cons_zero, List.set_cons_succ]
                  first
                    | (refine wpAnyH_take (i := 15) (oi := { dst := some 196, op := Op.move (Operand.tmp 195), type := 4, pos := "law.go:96", after := #[{ on := 14, ground := Ground.data }, { on := 10, ground := Ground.chain }], guard := none }) (v := undef) rfl (by kernel_rfl) (by kernel_rfl) (by kernel_rfl) (fun _ _ _ h => h) (Or.inr ⟨by rfl, rfl⟩) (by assumption) ?_)
                    | (refine wpAnyH_take (i := 15) (oi := { dst := some 196, op := Op.move (Operand.tmp 195), type := 4, pos := "law.go:96", after := #[{ on := 14, ground := Ground.data }, { on := 10, ground := Ground.chain }], guard := none }) (v := ?_) rfl (by kernel_rfl) (by kernel_rfl) (by kernel_rfl) (fun _ _ _ h => h) (Or.inl ⟨by rfl, ?_⟩) (by assumption) ?_; rotate_left; · (intro wq hSw; (try dsimp only at hSw); go_simp; try (with_reducible rfl)))
                  try simp only [Act.put, List.setIfInBounds_toArray, List.set_cons_zero, List.set_cons_succ]
                  first
                    | (refine wpAnyH_take (i := 16) (oi := { dst := some 197, op := Op.move (Operand.tmp 21), type := 4, pos := "law.go:96", after := #[{ on := 15, ground := Ground.guard }], guard := some (15, false) }) (v := undef) rfl (by kernel_rfl) (by kernel_rfl) (by kernel_rfl) (fun _ _ _ h => h) (Or.inr ⟨by rfl, rfl⟩) (by assumption) ?_)
                    | (refine wpAnyH_take (i := 16) (oi := { dst := some 197, op := Op.move (Operand.tmp 21), type := 4, pos := "law.go:96", after := #[{ on := 15, ground := Ground.guard }], guard := some (15, false) }) (v := ?_) rfl (by kernel_rfl) (by kernel_rfl) (by kernel_rfl) (fun _ _ _ h => h) (Or.inl ⟨by rfl, ?_⟩) (by assumption) ?_; rotate_left; · (intro wq hSw; (try dsimp only at hSw); go_simp; try (with_reducible rfl)))
                  try simp only [Act.put, List.setIfInBounds_toArray, List.set_cons_zero, List.set_cons_succ]
                  first
                    | (refine wpAnyH_take (i := 17) (oi := { dst := some 198, op := Op.move (Operand.tmp 24), type := 4, pos := "law.go:96", after := #[{ on := 15, ground := Ground.guard }], guard := some (15, false) }) (v := undef) rfl (by kernel_rfl) (by kernel_rfl) (by kernel_rfl) (fun _ _ _ h => h) (Or.inr ⟨by rfl, rfl⟩) (by assumption) ?_)
                    | (refine wpAnyH_take (i := 17) (oi := { dst := some 198, op := Op.move (Operand.tmp 24), type := 4, pos := "law.go:96", after := #[{ on := 15, ground := Ground.guard }], guard := some (15, false) }) (v := ?_) rfl (by kernel_rfl) (by kernel_rfl) (by kernel_rfl) (fun _ _ _ h => h) (Or.inl ⟨by rfl, ?_⟩) (by assumption) ?_; rotate_left; · (intro wq hSw; (try dsimp only at hSw); go_simp; try (with_reducible rfl)))
                  try simp only [Act.put, List.setIfInBounds_toArray, List.set_cons_zero, List.set_cons_succ]
                  first
                    | (refine wpAnyH_take (i := 18) (oi := { dst := some 199, op := Op.binOp BinOp.neq 4 (Operand.tmp 197) (Operand.tmp 198) 4, type := 4, pos := "law.go:96", after := #[{ on := 16, ground := Ground.data }, { on := 17, ground := Ground.data }, { on := 15, ground := Ground.guard }], guard := some (15, false) }) (v := undef) rfl (by kernel_rfl) (by kernel_rfl) (by kernel_rfl) (fun _ _ _ h => h) (Or.inr ⟨by rfl, rfl⟩) (by assumption) ?_)
                    | (refine wpAnyH_take (i := 18) (oi := { dst := some 199, op := Op.binOp BinOp.neq 4 (Operand.tmp 197) (Operand.tmp 198) 4, type := 4, pos := "law.go:96", after := #[{ on := 16, ground := Ground.data }, { on := 17, ground := Ground.data }, { on := 15, ground := Ground.guard }], guard := some (15, false) }) (v := ?_) rfl (by kernel_rfl) (by kernel_rfl) (by kernel_rfl) (fun _ _ _ h => h) (Or.inl ⟨by rfl, ?_⟩) (by assumption) ?_; rotate_left; · (intro wq hSw; (try dsimp only at hSw); go_simp; try (with_reducible rfl)))
                  try simp only [Act.put, List.setIfInBounds_toArray, List.set_cons_zero, List.set_cons_succ]
                  first
                    | (refine wpAnyH_take (i := 19) (oi := { dst := some 200, op := Op.pick (Operand.tmp 196) (Operand.const (Value.bool true)) (Operand.tmp 199), type := 4, pos := "law.go:96", after := #[{ on := 15, ground := Ground.data }, { on := 18, ground := Ground.data }], guard := none }) (v := undef) rfl (by kernel_rfl) (by kernel_rfl) (by kernel_rfl) (fun _ _ _ h => h) (Or.inr ⟨by rfl, rfl⟩) (by assumption) ?_)
                    | (refine wpAnyH_take (i := 19) (oi := { dst := some 200, op := Op.pick (Operand.tmp 196) (Operand.const (Value.bool true)) (Operand.tmp 199), type := 4, pos := "law.go:96", after := #[{ on := 15, ground := Ground.data }, { on := 18, ground := Ground.data }], guard := none }) (v := ?_) rfl (by kernel_rfl) (by kernel_rfl) (by kernel_rfl) (fun _ _ _ h => h) (Or.inl ⟨by rfl, ?_⟩) (by assumption) ?_; rotate_left; · (intro wq hSw; (try dsimp only at hSw); go_simp; try (with_reducible rfl)))
                  try simp only [Act.put, List.setIfInBounds_toArray, List.set_cons_zero, List.set_cons_succ]
                  first
                    | (refine wpAnyH_take (i := 20) (oi := { dst := some 201, op := Op.move (Operand.tmp 200), type := 4, pos := "law.go:96", after := #[{ on := 19, ground := Ground.data }, { on := 15, ground := Ground.chain }], guard := none }) (v := undef) rfl (by kernel_rfl) (by kernel_rfl) (by kernel_rfl) (fun _ _ _ h => h) (Or.inr ⟨by rfl, rfl⟩) (by assumption) ?_)
                    | (refine wpAnyH_take (i := 20) (oi := { dst := some 201, op := Op.move (Operand.tmp 200), type := 4, pos := "law.go:96", after := #[{ on := 19, ground := Ground.data }, { on := 15, ground := Ground.chain }], guard := none }) (v := ?_) rfl (by kernel_rfl) (by kernel_rfl) (by kernel_rfl) (fun _ _ _ h => h) (Or.inl ⟨by rfl, ?_⟩) (by assumption) ?_; rotate_left; · (intro wq hSw; (try dsimp only at hSw); go_simp; try (with_reducible rfl)))
                  try simp only [Act.put, List.setIfInBounds_toArray, List.set_cons_zero, List.set_cons_succ]
                  first
                    | (refine wpAnyH_take (i := 21) (oi := { dst := some 202, op := Op.move (Operand.tmp 24), type := 4, pos := "law.go:96", after := #[{ on := 20, ground := Ground.guard }], guard := some (20, false) }) (v := undef) rfl (by kernel_rfl) (by kernel_rfl) (by kernel_rfl) (fun _ _ _ h => h) (Or.inr ⟨by rfl, rfl⟩) (by assumption) ?_)
                    | (refine wpAnyH_take (i := 21) (oi := { dst := some 202, op := Op.move (Operand.tmp 24), type := 4, pos := "law.go:96", after := #[{ on := 20, ground := Ground.guard }], guard := some (20, false) }) (v := ?_) rfl (by kernel_rfl) (by kernel_rfl) (by kernel_rfl) (fun _ _ _ h => h) (Or.inl ⟨by rfl, ?_⟩) (by assumption) ?_; rotate_left; · (intro wq hSw; (try dsimp only at hSw); go_simp; try (with_reducible rfl)))
                  try simp only [Act.put, List.setIfInBounds_toArray, List.set_cons_zero, List.set_cons_succ]
                  first
                    | (refine wpAnyH_take (i := 22) (oi := { dst := some 203, op := Op.move (Operand.tmp 202), type := 4, pos := "law.go:96", after := #[{ on := 21, ground := Ground.data }, { on := 20, ground := Ground.chain }, { on := 20, ground := Ground.guard }], guard := some (20, false) }) (v := undef) rfl (by kernel_rfl) (by kernel_rfl) (by kernel_rfl) (fun _ _ _ h => h) (Or.inr ⟨by rfl, rfl⟩) (by assumption) ?_)
                    | (refine wpAnyH_take (i := 22) (oi := { dst := some 203, op := Op.move (Operand.tmp 202), type := 4, pos := "law.go:96", after := #[{ on := 21, ground := Ground.data }, { on := 20, ground := Ground.chain }, { on := 20, ground := Ground.guard }], guard := some (20, false) }) (v := ?_) rfl (by kernel_rfl) (by kernel_rfl) (by kernel_rfl) (fun _ _ _ h => h) (Or.inl ⟨by rfl, ?_⟩) (by assumption) ?_; rotate_left; · (intro wq hSw; (try dsimp only at hSw); go_simp; try (with_reducible rfl)))
                  try simp only [Act.put, List.setIfInBounds_toArray, List.set_cons_zero, List.set_cons_succ]
                  first
                    | (refine wpAnyH_take (i := 23) (oi := { dst := some 204, op := Op.move (Operand.tmp 20), type := 3, pos := "law.go:96", after := #[{ on := 22, ground := Ground.guard }], guard := some (22, true) }) (v := undef) rfl (by kernel_rfl) (by kernel_rfl) (by kernel_rfl) (fun _ _ _ h => h) (Or.inr ⟨by rfl, rfl⟩) (by assumption) ?_)
                    | (refine wpAnyH_take (i := 23) (oi := { dst := some 204, op := Op.move (Operand.tmp 20), type := 3, pos := "law.go:96", after := #[{ on := 22, ground := Ground.guard }], guard := some (22, true) }) (v := ?_) rfl (by kernel_rfl) (by kernel_rfl) (by kernel_rfl) (fun _ _ _ h => h) (Or.inl ⟨by rfl, ?_⟩) (by assumption) ?_; rotate_left; · (intro wq hSw; (try dsimp only at hSw); go_simp; try (with_reducible rfl)))
                  try simp only [Act.put, List.setIfInBounds_toArray, List.set_cons_zero, List.set_cons_succ]
                  first
                    | (refine wpAnyH_take (i := 24) (oi := { dst := some 205, op := Op.fieldAddr 44 (Operand.tmp 14) 1, type := 0, pos := "law.go:96", after := #[{ on := 22, ground := Ground.guard }], guard := some (22, true) }) (v := undef) rfl (by kernel_rfl) (by kernel_rfl) (by kernel_rfl) (fun _ _ _ h => h) (Or.inr ⟨by rfl, rfl⟩) (by assumption) ?_)
                    | (refine wpAnyH_take (i := 24) (oi := { dst := some 205, op := Op.fieldAddr 44 (Operand.tmp 14) 1, type := 0, pos := "law.go:96", after := #[{ on := 22, ground := Ground.guard }], guard := some (22, true) }) (v := ?_) rfl (by kernel_rfl) (by kernel_rfl) (by kernel_rfl) (fun _ _ _ h => h) (Or.inl ⟨by rfl, ?_⟩) (by assumption) ?_; rotate_left; · (intro wq hSw; (try dsimp only at hSw); go_simp; try (with_reducible rfl)))
                  try simp only [Act.put, List.setIfInBounds_toArray, List.set_cons_zero, List.set_cons_succ]
                  first
                    | (refine wpAnyH_take (i := 25) (oi := { dst := some 206, op := Op.load 3 (Operand.tmp 205), type := 3, pos := "law.go:96", after := #[{ on := 24, ground := Ground.data }, { on := 22, ground := Ground.guard }], guard := some (22, true) }) (v := undef) rfl (by kernel_rfl) (by kernel_rfl) (by kernel_rfl) (fun _ _ _ h => h) (Or.inr ⟨by rfl, rfl⟩) (by assumption) ?_)
                    | (refine wpAnyH_take (i := 25) (oi := { dst := some 206, op := Op.load 3 (Operand.tmp 205), type := 3, pos := "law.go:96", after := #[{ on := 24, ground := Ground.data }, { on := 22, ground := Ground.guard }], guard := some (22, true) }) (v := ?_) rfl (by kernel_rfl) (by kernel_rfl) (by kernel_rfl) (fun _ _ _ h => h) (Or.inl ⟨by rfl, ?_⟩) (by assumption) ?_; rotate_left; · (intro wq hSw; (try dsimp only at hSw); go_simp; try (with_reducible rfl)))
                  try simp only [Act.put, List.setIfInBounds_toArray, List.set_cons_zero, List.set_cons_succ]
                  first
                    | (refine wpAnyH_take (i := 26) (oi := { dst := some 207, op := Op.fieldAddr 41 (Operand.tmp 11) 0, type := 0, pos := "law.go:96", after := #[{ on := 22, ground := Ground.guard }], guard := some (22, true) }) (v := undef) rfl (by kernel_rfl) (by kernel_rfl) (by kernel_rfl) (fun _ _ _ h => h) (Or.inr ⟨by rfl, rfl⟩) (by assumption) ?_)
                    | (refine wpAnyH_take (i := 26) (oi := { dst := some 207, op := Op.fieldAddr 41 (Operand.tmp 11) 0, type := 0, pos := "law.go:96", after := #[{ on := 22, ground := Ground.guard }], guard := some (22, true) }) (v := ?_) rfl (by kernel_rfl) (by kernel_rfl) (by kernel_rfl) (fun _ _ _ h => h) (Or.inl ⟨by rfl, ?_⟩) (by assumption) ?_; rotate_left; · (intro wq hSw; (try dsimp only at hSw); go_simp; try (with_reducible rfl)))
                  try simp only [Act.put, List.setIfInBounds_toArray, List.set_cons_zero, List.set_cons_succ]
                  first
                    | (refine wpAnyH_take (i := 27) (oi := { dst := some 208, op := Op.indexAddr 39 (Operand.tmp 207) (Operand.tmp 206), type := 0, pos := "law.go:96", after := #[{ on := 26, ground := Ground.data }, { on := 25, ground := Ground.data }, { on := 22, ground := Ground.guard }], guard := some (22, true) }) (v := undef) rfl (by kernel_rfl) (by kernel_rfl) (by kernel_rfl) (fun _ _ _ h => h) (Or.inr ⟨by rfl, rfl⟩) (by assumption) ?_)
                    | (refine wpAnyH_take (i := 27) (oi := { dst := some 208, op := Op.indexAddr 39 (Operand.tmp 207) (Operand.tmp 206), type := 0, pos := "law.go:96", after := #[{ on := 26, ground := Ground.data }, { on := 25, ground := Ground.data }, { on := 22, ground := Ground.guard }], guard := some (22, true) }) (v := ?_) rfl (by kernel_rfl) (by kernel_rfl) (by kernel_rfl) (fun _ _ _ h => h) (Or.inl ⟨by rfl, ?_⟩) (by assumption) ?_; rotate_left; · (intro wq hSw; (try dsimp only at hSw); go_simp; try (with_reducible rfl)))
                  try simp only [Act.put, List.setIfInBounds_toArray, List.set_cons_zero, List.set_cons_succ]
                  first
                    | (refine wpAnyH_take (i := 28) (oi := { dst := some 209, op := Op.load 3 (Operand.tmp 208), type := 3, pos := "law.go:96", after := #[{ on := 27, ground := Ground.data }, { on := 22, ground := Ground.guard }], guard := some (22, true) }) (v := undef) rfl (by kernel_rfl) (by kernel_rfl) (by kernel_rfl) (fun _ _ _ h => h) (Or.inr ⟨by rfl, rfl⟩) (by assumption) ?_)
                    | (refine wpAnyH_take (i := 28) (oi := { dst := some 209, op := Op.load 3 (Operand.tmp 208), type := 3, pos := "law.go:96", after := #[{ on := 27, ground := Ground.data }, { on := 22, ground := Ground.guard }], guard := some (22, true) }) (v := ?_) rfl (by kernel_rfl) (by kernel_rfl) (by kernel_rfl) (fun _ _ _ h => h) (Or.inl ⟨by rfl, ?_⟩) (by assumption) ?_; rotate_left; · (intro wq hSw; (try dsimp only at hSw); go_simp; try (with_reducible rfl)))
                  try simp only [Act.put, List.setIfInBounds_toArray, List.set_cons_zero, List.set_cons_succ]
                  first
                    | (refine wpAnyH_take (i := 29) (oi := { dst := some 210, op := Op.binOp BinOp.neq 3 (Operand.tmp 204) (Operand.tmp 209) 3, type := 4, pos := "law.go:96", after := #[{ on := 23, ground := Ground.data }, { on := 28, ground := Ground.data }, { on := 22, ground := Ground.guard }], guard := some (22, true) }) (v := undef) rfl (by kernel_rfl) (by kernel_rfl) (by kernel_rfl) (fun _ _ _ h => h) (Or.inr ⟨by rfl, rfl⟩) (by assumption) ?_)
                    | (refine wpAnyH_take (i := 29) (oi := { dst := some 210, op := Op.binOp BinOp.neq 3 (Operand.tmp 204) (Operand.tmp 209) 3, type := 4, pos := "law.go:96", after := #[{ on := 23, ground := Ground.data }, { on := 28, ground := Ground.data }, { on := 22, ground := Ground.guard }], guard := some (22, true) }) (v := ?_) rfl (by kernel_rfl) (by kernel_rfl) (by kernel_rfl) (fun _ _ _ h => h) (Or.inl ⟨by rfl, ?_⟩) (by assumption) ?_; rotate_left; · (intro wq hSw; (try dsimp only at hSw); go_simp; try (with_reducible rfl)))
                  try simp only [Act.put, List.setIfInBounds_toArray, List.set_cons_zero, List.set_cons_succ]
                  first
                    | (refine wpAnyH_take (i := 30) (oi := { dst := some 211, op := Op.pick (Operand.tmp 203) (Operand.tmp 210) (Operand.const (Value.bool false)), type := 4, pos := "law.go:96", after := #[{ on := 22, ground := Ground.data }, { on := 29, ground := Ground.data }, { on := 20, ground := Ground.guard }], guard := some (20, false) }) (v := undef) rfl (by kernel_rfl) (by kernel_rfl) (by kernel_rfl) (fun _ _ _ h => h) (Or.inr ⟨by rfl, rfl⟩) (by assumption) ?_)
                    | (refine wpAnyH_take (i := 30) (oi := { dst := some 211, op := Op.pick (Operand.tmp 203) (Operand.tmp 210) (Operand.const (Value.bool false)), type := 4, pos := "law.go:96", after := #[{ on := 22, ground := Ground.data }, { on := 29, ground := Ground.data }, { on := 20, ground := Ground.guard }], guard := some (20, false) }) (v := ?_) rfl (by kernel_rfl) (by kernel_rfl) (by kernel_rfl) (fun _ _ _ h => h) (Or.inl ⟨by rfl, ?_⟩) (by assumption) ?_; rotate_left; · (intro wq hSw; (try dsimp only at hSw); go_simp; try (with_reducible rfl)))
                  try simp only [Act.put, List.setIfInBounds_toArray, List.set_cons_zero, List.set_cons_succ]
                  first
                    | (refine wpAnyH_take (i := 31) (oi := { dst := some 212, op := Op.pick (Operand.tmp 201) (Operand.const (Value.bool true)) (Operand.tmp 211), type := 4, pos := "law.go:96", after := #[{ on := 20, ground := Ground.data }, { on := 30, ground := Ground.data }], guard := none }) (v := undef) rfl (by kernel_rfl) (by kernel_rfl) (by kernel_rfl) (fun _ _ _ h => h) (Or.inr ⟨by rfl, rfl⟩) (by assumption) ?_)
                    | (refine wpAnyH_take (i := 31) (oi := { dst := some 212, op := Op.pick (Operand.tmp 201) (Operand.const (Value.bool true)) (Operand.tmp 211), type := 4, pos := "law.go:96", after := #[{ on := 20, ground := Ground.data }, { on := 30, ground := Ground.data }], guard := none }) (v := ?_) rfl (by kernel_rfl) (by kernel_rfl) (by kernel_rfl) (fun _ _ _ h => h) (Or.inl ⟨by rfl, ?_⟩) (by assumption) ?_; rotate_left; · (intro wq hSw; (try dsimp only at hSw); go_simp; try (with_reducible rfl)))
                  try simp only [Act.put, List.setIfInBounds_toArray, List.set_cons_zero, List.set_cons_succ]
                  first
                    | (refine wpAnyH_take (i := 32) (oi := { dst := some 213, op := Op.move (Operand.tmp 212), type := 4, pos := "law.go:96", after := #[{ on := 31, ground := Ground.data }, { on := 22, ground := Ground.chain }], guard := none }) (v := undef) rfl (by kernel_rfl) (by kernel_rfl) (by kernel_rfl) (fun _ _ _ h => h) (Or.inr ⟨by rfl, rfl⟩) (by assumption) ?_)
                    | (refine wpAnyH_take (i := 32) (oi := { dst := some 213, op := Op.move (Operand.tmp 212), type := 4, pos := "law.go:96", after := #[{ on := 31, ground := Ground.data }, { on := 22, ground := Ground.chain }], guard := none }) (v := ?_) rfl (by kernel_rfl) (by kernel_rfl) (by kernel_rfl) (fun _ _ _ h => h) (Or.inl ⟨by rfl, ?_⟩) (by assumption) ?_; rotate_left; · (intro wq hSw; (try dsimp only at hSw); go_simp; try (with_reducible rfl)))
                  try simp only [Act.put, List.setIfInBounds_toArray, List.set_cons_zero, List.set_cons_succ]
                  first
                    | (refine wpAnyH_take (i := 33) (oi := { dst := some 214, op := Op.move (Operand.tmp 23), type := 4, pos := "law.go:96", after := #[{ on := 32, ground := Ground.guard }], guard := some (32, false) }) (v := undef) rfl (by kernel_rfl) (by kernel_rfl) (by kernel_rfl) (fun _ _ _ h => h) (Or.inr ⟨by rfl, rfl⟩) (by assumption) ?_)
                    | (refine wpAnyH_take (i := 33) (oi := { dst := some 214, op := Op.move (Operand.tmp 23), type := 4, pos := "law.go:96", after := #[{ on := 32, ground := Ground.guard }], guard := some (32, false) }) (v := ?_) rfl (by kernel_rfl) (by kernel_rfl) (by kernel_rfl) (fun _ _ _ h => h) (Or.inl ⟨by rfl, ?_⟩) (by assumption) ?_; rotate_left; · (intro wq hSw; (try dsimp only at hSw); go_simp; try (with_reducible rfl)))
                  try simp only [Act.put, List.setIfInBounds_toArray, List.set_cons_zero, List.set_cons_succ]
                  first
                    | (refine wpAnyH_take (i := 34) (oi := { dst := some 215, op := Op.move (Operand.tmp 25), type := 3, pos := "law.go:96", after := #[{ on := 32, ground := Ground.guard }], guard := some (32, false) }) (v := undef) rfl (by kernel_rfl) (by kernel_rfl) (by kernel_rfl) (fun _ _ _ h => h) (Or.inr ⟨by rfl, rfl⟩) (by assumption) ?_)
                    | (refine wpAnyH_take (i := 34) (oi := { dst := some 215, op := Op.move (Operand.tmp 25), type := 3, pos := "law.go:96", after := #[{ on := 32, ground := Ground.guard }], guard := some (32, false) }) (v := ?_) rfl (by kernel_rfl) (by kernel_rfl) (by kernel_rfl) (fun _ _ _ h => h) (Or.inl ⟨by rfl, ?_⟩) (by assumption) ?_; rotate_left; · (intro wq hSw; (try dsimp only at hSw); go_simp; try (with_reducible rfl)))
                  try simp only [Act.put, List.setIfInBounds_toArray, List.set_cons_zero, List.set_cons_succ]
                  first
                    | (refine wpAnyH_take (i := 35) (oi := { dst := some 216, op := Op.binOp BinOp.geq 3 (Operand.tmp 215) (Operand.const (Value.int IntKind.i64 0)) 3, type := 4, pos := "law.go:96", after := #[{ on := 34, ground := Ground.data }, { on := 32, ground := Ground.guard }], guard := some (32, false) }) (v := undef) rfl (by kernel_rfl) (by kernel_rfl) (by kernel_rfl) (fun _ _ _ h => h) (Or.inr ⟨by rfl, rfl⟩) (by assumption) ?_)
                    | (refine wpAnyH_take (i := 35) (oi := { dst := some 216, op := Op.binOp BinOp.geq 3 (Operand.tmp 215) (Operand.const (Value.int IntKind.i64 0)) 3, type := 4, pos := "law.go:96", after := #[{ on := 34, ground := Ground.data }, { on := 32, ground := Ground.guard }], guard := some (32, false) }) (v := ?_) rfl (by kernel_rfl) (by kernel_rfl) (by kernel_rfl) (fun _ _ _ h => h) (Or.inl ⟨by rfl, ?_⟩) (by assumption) ?_; rotate_left; · (intro wq hSw; (try dsimp only at hSw); go_simp; try (with_reducible rfl)))
                  try simp only [Act.put, List.setIfInBounds_toArray, List.set_cons_zero, List.set_cons_succ]
                  first
                    | (refine wpAnyH_take (i := 36) (oi := { dst := some 217, op := Op.binOp BinOp.neq 4 (Operand.tmp 214) (Operand.tmp 216) 4, type := 4, pos := "law.go:96", after := #[{ on := 33, ground := Ground.data }, { on := 35, ground := Ground.data }, { on := 32, ground := Ground.guard }], guard := some (32, false) }) (v := undef) rfl (by kernel_rfl) (by kernel_rfl) (by kernel_rfl) (fun _ _ _ h => h) (Or.inr ⟨by rfl, rfl⟩) (by assumption) ?_)
                    | (refine wpAnyH_take (i := 36) (oi := { dst := some 217, op := Op.binOp BinOp.neq 4 (Operand.tmp 214) (Operand.tmp 216) 4, type := 4, pos := "law.go:96", after := #[{ on := 33, ground := Ground.data }, { on := 35, ground := Ground.data }, { on := 32, ground := Ground.guard }], guard := some (32, false) }) (v := ?_) rfl (by kernel_rfl) (by kernel_rfl) (by kernel_rfl) (fun _ _ _ h => h) (Or.inl ⟨by rfl, ?_⟩) (by assumption) ?_; rotate_left; · (intro wq hSw; (try dsimp only at hSw); go_simp; try (with_reducible rfl)))
                  try simp only [Act.put, List.setIfInBounds_toArray, List.set_cons_zero, List.set_cons_succ]
                  first
                    | (refine wpAnyH_take (i := 37) (oi := { dst := some 218, op := Op.pick (Operand.tmp 213) (Operand.const (Value.bool true)) (Operand.tmp 217), type := 4, pos := "law.go:96", after := #[{ on := 32, ground := Ground.data }, { on := 36, ground := Ground.data }], guard := none }) (v := undef) rfl (by kernel_rfl) (by kernel_rfl) (by kernel_rfl) (fun _ _ _ h => h) (Or.inr ⟨by rfl, rfl⟩) (by assumption) ?_)
                    | (refine wpAnyH_take (i := 37) (oi := { dst := some 218, op := Op.pick (Operand.tmp 213) (Operand.const (Value.bool true)) (Operand.tmp 217), type := 4, pos := "law.go:96", after := #[{ on := 32, ground := Ground.data }, { on := 36, ground := Ground.data }], guard := none }) (v := ?_) rfl (by kernel_rfl) (by kernel_rfl) (by kernel_rfl) (fun _ _ _ h => h) (Or.inl ⟨by rfl, ?_⟩) (by assumption) ?_; rotate_left; · (intro wq hSw; (try dsimp only at hSw); go_simp; try (with_reducible rfl)))
                  try simp only [Act.put, List.setIfInBounds_toArray, List.set_cons_zero, List.set_cons_succ]
                  first
                    | (refine wpAnyH_take (i := 38) (oi := { dst := some 219, op := Op.move (Operand.tmp 218), type := 4, pos := "law.go:96", after := #[{ on := 37, ground := Ground.data }, { on := 32, ground := Ground.chain }], guard := none }) (v := undef) rfl (by kernel_rfl) (by kernel_rfl) (by kernel_rfl) (fun _ _ _ h => h) (Or.inr ⟨by rfl, rfl⟩) (by assumption) ?_)
                    | (refine wpAnyH_take (i := 38) (oi := { dst := some 219, op := Op.move (Operand.tmp 218), type := 4, pos := "law.go:96", after := #[{ on := 37, ground := Ground.data }, { on := 32, ground := Ground.chain }], guard := none }) (v := ?_) rfl (by kernel_rfl) (by kernel_rfl) (by kernel_rfl) (fun _ _ _ h => h) (Or.inl ⟨by rfl, ?_⟩) (by assumption) ?_; rotate_left; · (intro wq hSw; (try dsimp only at hSw); go_simp; try (with_reducible rfl)))
                  try simp only [Act.put, List.setIfInBounds_toArray, List.set_cons_zero, List.set_cons_succ]
                  first
                    | (refine wpAnyH_take (i := 39) (oi := { dst := some 220, op := Op.move (Operand.tmp 22), type := 3, pos := "law.go:96", after := #[{ on := 38, ground := Ground.guard }], guard := some (38, false) }) (v := undef) rfl (by kernel_rfl) (by kernel_rfl) (by kernel_rfl) (fun _ _ _ h => h) (Or.inr ⟨by rfl, rfl⟩) (by assumption) ?_)
                    | (refine wpAnyH_take (i := 39) (oi := { dst := some 220, op := Op.move (Operand.tmp 22), type := 3, pos := "law.go:96", after := #[{ on := 38, ground := Ground.guard }], guard := some (38, false) }) (v := ?_) rfl (by kernel_rfl) (by kernel_rfl) (by kernel_rfl) (fun _ _ _ h => h) (Or.inl ⟨by rfl, ?_⟩) (by assumption) ?_; rotate_left; · (intro wq hSw; (try dsimp only at hSw); go_simp; try (with_reducible rfl)))
                  try simp only [Act.put, List.setIfInBounds_toArray, List.set_cons_zero, List.set_cons_succ]
                  first
                    | (refine wpAnyH_take (i := 40) (oi := { dst := some 221, op := Op.move (Operand.tmp 25), type := 3, pos := "law.go:96", after := #[{ on := 38, ground := Ground.guard }], guard := some (38, false) }) (v := undef) rfl (by kernel_rfl) (by kernel_rfl) (by kernel_rfl) (fun _ _ _ h => h) (Or.inr ⟨by rfl, rfl⟩) (by assumption) ?_)
                    | (refine wpAnyH_take (i := 40) (oi := { dst := some 221, op := Op.move (Operand.tmp 25), type := 3, pos := "law.go:96", after := #[{ on := 38, ground := Ground.guard }], guard := some (38, false) }) (v := ?_) rfl (by kernel_rfl) (by kernel_rfl) (by kernel_rfl) (fun _ _ _ h => h) (Or.inl ⟨by rfl, ?_⟩) (by assumption) ?_; rotate_left; · (intro wq hSw; (try dsimp only at hSw); go_simp; try (with_reducible rfl)))
                  try simp only [Act.put, List.setIfInBounds_toArray, List.set_cons_zero, List.set_cons_succ]
                  first
                    | (refine wpAnyH_take (i := 41) (oi := { dst := some 222, op := Op.call { callee := Callee.builtin Builtin.max, args := #[Operand.const (Value.int IntKind.i64 0), Operand.tmp 221], argTypes := #[3, 3] }, type := 3, pos := "law.go:96", after := #[{ on := 40, ground := Ground.data }, { on := 38, ground := Ground.guard }], guard := some (38, false) }) (v := undef) rfl (by kernel_rfl) (by kernel_rfl) (by kernel_rfl) (fun _ _ _ h => h) (Or.inr ⟨by rfl, rfl⟩) (by assumption) ?_)
                    | (refine wpAnyH_take (i := 41) (oi := { dst := some 222, op := Op.call { callee := Callee.builtin Builtin.max, args := #[Operand.const (Value.int IntKind.i64 0), Operand.tmp 221], argTypes := #[3, 3] }, type := 3, pos := "law.go:96", after := #[{ on := 40, ground := Ground.data }, { on := 38, ground := Ground.guard }], guard := some (38, false) }) (v := ?_) rfl (by kernel_rfl) (by kernel_rfl) (by kernel_rfl) (fun _ _ _ h => h) (Or.inl ⟨by rfl, ?_⟩) (by assumption) ?_; rotate_left; · (intro wq hSw; (try dsimp only at hSw); go_simp; try (with_reducible rfl)))
                  try simp only [Act.put, List.setIfInBounds_toArray, List.set_cons_zero, List.set_cons_succ]
                  first
                    | (refine wpAnyH_take (i := 42) (oi := { dst := some 223, op := Op.binOp BinOp.neq 3 (Operand.tmp 220) (Operand.tmp 222) 3, type := 4, pos := "law.go:96", after := #[{ on := 39, ground := Ground.data }, { on := 41, ground := Ground.data }, { on := 38, ground := Ground.guard }], guard := some (38, false) }) (v := undef) rfl (by kernel_rfl) (by kernel_rfl) (by kernel_rfl) (fun _ _ _ h => h) (Or.inr ⟨by rfl, rfl⟩) (by assumption) ?_)
                    | (refine wpAnyH_take (i := 42) (oi := { dst := some 223, op := Op.binOp BinOp.neq 3 (Operand.tmp 220) (Operand.tmp 222) 3, type := 4, pos := "law.go:96", after := #[{ on := 39, ground := Ground.data }, { on := 41, ground := Ground.data }, { on := 38, ground := Ground.guard }], guard := some (38, false) }) (v := ?_) rfl (by kernel_rfl) (by kernel_rfl) (by kernel_rfl) (fun _ _ _ h => h) (Or.inl ⟨by rfl, ?_⟩) (by assumption) ?_; rotate_left; · (intro wq hSw; (try dsimp only at hSw); go_simp; try (with_reducible rfl)))
                  try simp only [Act.put, List.setIfInBounds_toArray, List.set_cons_zero, List.set_cons_succ]
                  first
                    | (refine wpAnyH_take (i := 43) (oi := { dst := some 224, op := Op.pick (Operand.tmp 219) (Operand.const (Value.bool true)) (Operand.tmp 223), type := 4, pos := "law.go:96", after := #[{ on := 38, ground := Ground.data }, { on := 42, ground := Ground.data }], guard := none }) (v := undef) rfl (by kernel_rfl) (by kernel_rfl) (by kernel_rfl) (fun _ _ _ h => h) (Or.inr ⟨by rfl, rfl⟩) (by assumption) ?_)
                    | (refine wpAnyH_take (i := 43) (oi := { dst := some 224, op := Op.pick (Operand.tmp 219) (Operand.const (Value.bool true)) (Operand.tmp 223), type := 4, pos := "law.go:96", after := #[{ on := 38, ground := Ground.data }, { on := 42, ground := Ground.data }], guard := none }) (v := ?_) rfl (by kernel_rfl) (by kernel_rfl) (by kernel_rfl) (fun _ _ _ h => h) (Or.inl ⟨by rfl, ?_⟩) (by assumption) ?_; rotate_left; · (intro wq hSw; (try dsimp only at hSw); go_simp; try (with_reducible rfl)))
                  try simp only [Act.put, List.setIfInBounds_toArray, List.set_cons_zero, List.set_cons_succ]
                  refine wpAnyH_done (by kernel_rfl) ?_ _
                  go_wp2
                  go_roundg k
                  case measure => omega
                  case rel => exact ⟨i + 1, L2, q2, rfl, by first | rw [ws.out] | rfl, HQ2, ⟨by have := HK.out; omega⟩, ⟨HI3.out.below (by repeat (first | exact Below.refl _ _ | refine pw_below_drewN ?_ _ | refine below_drew ?_))⟩⟩
              | false =>
                rw [hic] at hih
                have g4 : decide (pn ≥ 0) = false := hih
                rw [hic] at hPg
                clear hic hpn2 hgl
                as_aux_lemma =>
                  replace hPg := Aside0.mk hPg
                  have hps := Aside0.mk HI2.out.ps
                  obtain ⟨P, hP⟩ : ∃ P, P = pOf L2 := ⟨_, rfl⟩
                  rw [← hP] at hps hP2l hRF
                  replace hP := Aside0.mk hP
                  go_upto_region 36 with (first | ((with_reducible refine gate_ld rfl ?_); refine wl_ld rfl _ rfl rfl hps.out hP2l.out ?_) | (go_at_call 13; refine hPg.out.mono ?_; rintro e w1 ⟨rfl, h1⟩; replace h1 := h1.symm; subst h1) | (go_at_call 14; refine hFr.out.mono ?_; rintro e w1 ⟨rfl, h1⟩; replace h1 := h1.symm; subst h1) | (go_at_call 21; refine hRF.out.mono ?_; rintro e w10 ⟨rfl, hb10⟩; replace hb10 := Aside0.mk hb10))
                  have HI3 := Aside0.mk (HI2.out.below hb10.out)
                  have kh3 := cell_bel hb10.out kh
                  have y13 := cell_bel hb10.out y1
                  have kn3 := cell_bel hb10.out kn
                  clear kh y1 y2 hps kn
                  have hLn := fun (w' : World) (hb : Below w10.heap.size w10 w') => len_calls g L2 hLl.out w' (blk_below HI3.out.cs hb)
                  have hHn := fun (w' : World) (hb : Below w10.heap.size w10 w') => hand_calls g L2 hLl.out w' (blk_below HI3.out.cs hb)
                  rw [← HQ2.out] at hLn
                  rw [← hhv.out] at hHn
                  replace hLn := Aside0.mk hLn
                  replace hHn := Aside0.mk hHn
                  refine wp_region_held_drew (S := fun w' : World => w'.cell? ⟨p, 1, none⟩ = some (.int .i64 (n : Int)) ∧ w'.cell? ⟨b, n, none⟩ = some (.int .i64 pn) ∧ w'.cell? ⟨b, 96, none⟩ = some (.int .i64 hv)) (by kernel_rfl) ⟨y13, kn3, kh3⟩ (fun hHeld => ?_)
                  first
                    | (refine wpAnyH_take (i := 0) (oi := { dst := some 181, op := Op.move (Operand.tmp 15), type := 4, pos := "law.go:96", after := #[], guard := none }) (v := undef) rfl (by kernel_rfl) (by kernel_rfl) (by kernel_rfl) (fun _ _ _ h => h) (Or.inr ⟨by rfl, rfl⟩) (by assumption) ?_)
                    | (refine wpAnyH_take (i := 0) (oi := { dst := some 181, op := Op.move (Operand.tmp 15), type := 4, pos := "law.go:96", after := #[], guard := none }) (v := ?_) rfl (by kernel_rfl) (by kernel_rfl) (by kernel_rfl) (fun _ _ _ h => h) (Or.inl ⟨by rfl, ?_⟩) (by assumption) ?_; rotate_left; · (intro wq hSw; (try dsimp only at hSw); go_simp; try (with_reducible rfl)))
                  try simp only [Act.put, List.setIfInBounds_toArray, List.set_cons_zero, List.set_cons_succ]
                  first
                    | (refine wpAnyH_take (i := 1) (oi := { dst := some 182, op := Op.unOp UnOp.not 4 (Operand.tmp 181), type := 4, pos := "law.go:96", after := #[{ on := 0, ground := Ground.data }], guard := none }) (v := undef) rfl (by kernel_rfl) (by kernel_rfl) (by kernel_rfl) (fun _ _ _ h => h) (Or.inr ⟨by rfl, rfl⟩) (by assumption) ?_)
                    | (refine wpAnyH_take (i := 1) (oi := { dst := some 182, op := Op.unOp UnOp.not 4 (Operand.tmp 181), type := 4, pos := "law.go:96", after := #[{ on := 0, ground := Ground.data }], guard := none }) (v := ?_) rfl (by kernel_rfl) (by kernel_rfl) (by kernel_rfl) (fun _ _ _ h => h) (Or.inl ⟨by rfl, ?_⟩) (by assumption) ?_; rotate_left; · (intro wq hSw; (try dsimp only at hSw); go_simp; try (with_reducible rfl)))
                  try simp only [Act.put, List.setIfInBounds_toArray, List.set_cons_zero, List.set_cons_succ]
                  first
                    | (refine wpAnyH_take (i := 2) (oi := { dst := some 183, op := Op.move (Operand.tmp 182), type := 4, pos := "law.go:96", after := #[{ on := 1, ground := Ground.data }], guard := none }) (v := undef) rfl (by kernel_rfl) (by kernel_rfl) (by kernel_rfl) (fun _ _ _ h => h) (Or.inr ⟨by rfl, rfl⟩) (by assumption) ?_)
                    | (refine wpAnyH_take (i := 2) (oi := { dst := some 183, op := Op.move (Operand.tmp 182), type := 4, pos := "law.go:96", after := #[{ on := 1, ground := Ground.data }], guard := none }) (v := ?_) rfl (by kernel_rfl) (by kernel_rfl) (by kernel_rfl) (fun _ _ _ h => h) (Or.inl ⟨by rfl, ?_⟩) (by assumption) ?_; rotate_left; · (intro wq hSw; (try dsimp only at hSw); go_simp; try (with_reducible rfl)))
                  try simp only [Act.put, List.setIfInBounds_toArray, List.set_cons_zero, List.set_cons_succ]
                  first
                    | (refine wpAnyH_take (i := 3) (oi := { dst := some 184, op := Op.move (Operand.tmp 10), type := 24, pos := "law.go:96", after := #[{ on := 2, ground := Ground.guard }], guard := some (2, false) }) (v := undef) rfl (by kernel_rfl) (by kernel_rfl) (by kernel_rfl) (fun _ _ _ h => h) (Or.inr ⟨by rfl, rfl⟩) (by assumption) ?_)
                    | (refine wpAnyH_take (i := 3) (oi := { dst := some 184, op := Op.move (Operand.tmp 10), type := 24, pos := "law.go:96", after := #[{ on := 2, ground := Ground.guard }], guard := some (2, false) }) (v := ?_) rfl (by kernel_rfl) (by kernel_rfl) (by kernel_rfl) (fun _ _ _ h => h) (Or.inl ⟨by rfl, ?_⟩) (by assumption) ?_; rotate_left; · (intro wq hSw; (try dsimp only at hSw); go_simp; try (with_reducible rfl)))
                  try simp only [Act.put, List.setIfInBounds_toArray, List.set_cons_zero, List.set_cons_succ]
                  first
                    | (refine wpAnyH_take (i := 5) (oi := { dst := some 186, op := Op.move (Operand.tmp 12), type := 3, pos := "law.go:96", after := #[{ on := 2, ground := Ground.guard }], guard := some (2, false) }) (v := undef) rfl (by kernel_rfl) (by kernel_rfl) (by kernel_rfl) (fun _ _ _ h => h) (Or.inr ⟨by rfl, rfl⟩) (by assumption) ?_)
                    | (refine wpAnyH_take (i := 5) (oi := { dst := some 186, op := Op.move (Operand.tmp 12), type := 3, pos := "law.go:96", after := #[{ on := 2, ground := Ground.guard }], guard := some (2, false) }) (v := ?_) rfl (by kernel_rfl) (by kernel_rfl) (by kernel_rfl) (fun _ _ _ h => h) (Or.inl ⟨by rfl, ?_⟩) (by assumption) ?_; rotate_left; · (intro wq hSw; (try dsimp only at hSw); go_simp; try (with_reducible rfl)))
                  try simp only [Act.put, List.setIfInBounds_toArray, List.set_cons_zero, List.set_cons_succ]
                  refine wpAnyH_ready (rs := [4]) (by kernel_rfl) (by simp) ?_
                  refine AllReadyH.cons (o := { dst := some 185, op := Op.call { callee := Callee.value (Operand.func 12), args := #[Operand.tmp 184], argTypes := #[24] }, type := 3, pos := "law.go:96", after := #[{ on := 3, ground := Ground.data }, { on := 2, ground := Ground.chain }, { on := 2, ground := Ground.guard }], guard := some (2, false) }) rfl (fun K hK => ?_) ?_
                  rotate_left
                  · exact AllReadyH.nil
                  go_simp
                  go_at_call 12
                  refine (hLn.out _ (by repeat (first | exact Below.refl _ _ | refine pw_below_drewN ?_ _ | refine below_drew ?_))).mono ?_
                  rintro e w11 ⟨rfl, h1⟩
                  replace h1 := h1.symm
                  subst h1
                  refine hK.out _ _ ?_ (fun hHeld => ?_)
                  · exact hHeld
                  clear hK K
                  try simp only [Act.put, List.setIfInBounds_toArray, List.set_cons_zero, List.set_cons_succ]
                  first
                    | (refine wpAnyH_take (i := 6) (oi := { dst := some 187, op := Op.binOp BinOp.neq 3 (Operand.tmp 185) (Operand.tmp 186) 3, type := 4, pos := "law.go:96", after := #[{ on := 4, ground := Ground.data }, { on := 5, ground := Ground.data }, { on := 2, ground := Ground.guard }], guard := some (2, false) }) (v := undef) rfl (by kernel_rfl) (by kernel_rfl) (by kernel_rfl) (fun _ _ _ h => h) (Or.inr ⟨by rfl, rfl⟩) (by assumption) ?_)
                    | (refine wpAnyH_take (i := 6) (oi := { dst := some 187, op := Op.binOp BinOp.neq 3 (Operand.tmp 185) (Operand.tmp 186) 3, type := 4, pos := "law.go:96", after := #[{ on := 4, ground := Ground.data }, { on := 5, ground := Ground.data }, { on := 2, ground := Ground.guard }], guard := some (2, false) }) (v := ?_) rfl (by kernel_rfl) (by kernel_rfl) (by kernel_rfl) (fun _ _ _ h => h) (Or.inl ⟨by rfl, ?_⟩) (by assumption) ?_; rotate_left; · (intro wq hSw; (try dsimp only at hSw); go_simp; try (with_reducible rfl)))
                  try simp only [Act.put, List.setIfInBounds_toArray, List.set_cons_zero, List.set_cons_succ]
                  first
                    | (refine wpAnyH_take (i := 7) (oi := { dst := some 188, op := Op.pick (Operand.tmp 183) (Operand.const (Value.bool true)) (Operand.tmp 187), type := 4, pos := "law.go:96", after := #[{ on := 2, ground := Ground.data }, { on := 6, ground := Ground.data }], guard := none }) (v := undef) rfl (by kernel_rfl) (by kernel_rfl) (by kernel_rfl) (fun _ _ _ h => h) (Or.inr ⟨by rfl, rfl⟩) (by assumption) ?_)
                    | (refine wpAnyH_take (i := 7) (oi := { dst := some 188, op := Op.pick (Operand.tmp 183) (Operand.const (Value.bool true)) (Operand.tmp 187), type := 4, pos := "law.go:96", after := #[{ on := 2, ground := Ground.data }, { on := 6, ground := Ground.data }], guard := none }) (v := ?_) rfl (by kernel_rfl) (by kernel_rfl) (by kernel_rfl) (fun _ _ _ h => h) (Or.inl ⟨by rfl, ?_⟩) (by assumption) ?_; rotate_left; · (intro wq hSw; (try dsimp only at hSw); go_simp; try (with_reducible rfl)))
                  try simp only [Act.put, List.setIfInBounds_toArray, List.set_cons_zero, List.set_cons_succ]
                  first
                    | (refine wpAnyH_take (i := 8) (oi := { dst := some 189, op := Op.move (Operand.tmp 188), type := 4, pos := "law.go:96", after := #[{ on := 7, ground := Ground.data }, { on := 4, ground := Ground.chain }], guard := none }) (v := undef) rfl (by kernel_rfl) (by kernel_rfl) (by kernel_rfl) (fun _ _ _ h => h) (Or.inr ⟨by rfl, rfl⟩) (by assumption) ?_)
                    | (refine wpAnyH_take (i := 8) (oi := { dst := some 189, op := Op.move (Operand.tmp 188), type := 4, pos := "law.go:96", after := #[{ on := 7, ground := Ground.data }, { on := 4, ground := Ground.chain }], guard := none }) (v := ?_) rfl (by kernel_rfl) (by kernel_rfl) (by kernel_rfl) (fun _ _ _ h => h) (Or.inl ⟨by rfl, ?_⟩) (by assumption) ?_; rotate_left; · (intro wq hSw; (try dsimp only at hSw); go_simp; try (with_reducible rfl)))
                  try simp only [Act.put, List.setIfInBounds_toArray, List.set_cons_zero, List.set_cons_succ]
                  first
                    | (refine wpAnyH_take (i := 9) (oi := { dst := some 190, op := Op.move (Operand.tmp 10), type := 24, pos := "law.go:96", after := #[{ on := 8, ground := Ground.guard }], guard := some (8, false) }) (v := undef) rfl (by kernel_rfl) (by kernel_rfl) (by kernel_rfl) (fun _ _ _ h => h) (Or.inr ⟨by rfl, rfl⟩) (by assumption) ?_)
                    | (refine wpAnyH_take (i := 9) (oi := { dst := some 190, op := Op.move (Operand.tmp 10), type := 24, pos := "law.go:96", after := #[{ on := 8, ground := Ground.guard }], guard := some (8, false) }) (v := ?_) rfl (by kernel_rfl) (by kernel_rfl) (by kernel_rfl) (fun _ _ _ h => h) (Or.inl ⟨by rfl, ?_⟩) (by assumption) ?_; rotate_left; · (intro wq hSw; (try dsimp only at hSw); go_simp; try (with_reducible rfl)))
                  try simp only [Act.put, List.setIfInBounds_toArray, List.set_cons_zero, List.set_cons_succ]
                  first
                    | (refine wpAnyH_take (i := 11) (oi := { dst := some 192, op := Op.fieldAddr 41 (Operand.tmp 11) 1, type := 0, pos := "law.go:96", after := #[{ on := 8, ground := Ground.guard }], guard := some (8, false) }) (v := undef) rfl (by kernel_rfl) (by kernel_rfl) (by kernel_rfl) (fun _ _ _ h => h) (Or.inr ⟨by rfl, rfl⟩) (by assumption) ?_)
                    | (refine wpAnyH_take (i := 11) (oi := { dst := some 192, op := Op.fieldAddr 41 (Operand.tmp 11) 1, type := 0, pos := "law.go:96", after := #[{ on := 8, ground := Ground.guard }], guard := some (8, false) }) (v := ?_) rfl (by kernel_rfl) (by kernel_rfl) (by kernel_rfl) (fun _ _ _ h => h) (Or.inl ⟨by rfl, ?_⟩) (by assumption) ?_; rotate_left; · (intro wq hSw; (try dsimp only at hSw); go_simp; try (with_reducible rfl)))
                  try simp only [Act.put, List.setIfInBounds_toArray, List.set_cons_zero, List.set_cons_succ]
                  first
                    | (refine wpAnyH_take (i := 12) (oi := { dst := some 193, op := Op.load 3 (Operand.tmp 192), type := 3, pos := "law.go:96", after := #[{ on := 11, ground := Ground.data }, { on := 8, ground := Ground.guard }], guard := some (8, false) }) (v := undef) rfl (by kernel_rfl) (by kernel_rfl) (by kernel_rfl) (fun _ _ _ h => h) (Or.inr ⟨by rfl, rfl⟩) (by assumption) ?_)
                    | (refine wpAnyH_take (i := 12) (oi := { dst := some 193, op := Op.load 3 (Operand.tmp 192), type := 3, pos := "law.go:96", after := #[{ on := 11, ground := Ground.data }, { on := 8, ground := Ground.guard }], guard := some (8, false) }) (v := ?_) rfl (by kernel_rfl) (by kernel_rfl) (by kernel_rfl) (fun _ _ _ h => h) (Or.inl ⟨by rfl, ?_⟩) (by assumption) ?_; rotate_left; · (intro wq hSw; (try dsimp only at hSw); go_simp; try (with_reducible rfl)))
                  try simp only [Act.put, List.setIfInBounds_toArray, List.set_cons_zero, List.set_cons_succ]
                  refine wpAnyH_ready (rs := [10]) (by kernel_rfl) (by simp) ?_
                  refine AllReadyH.cons (o := { dst := some 191, op := Op.call { callee := Callee.value (Operand.func 9), args := #[Operand.tmp 190], argTypes := #[24] }, type := 3, pos := "law.go:96", after := #[{ on := 9, ground := Ground.data }, { on := 8, ground := Ground.chain }, { on := 8, ground := Ground.guard }], guard := some (8, false) }) rfl (fun K hK => ?_) ?_
                  rotate_left
                  · exact AllReadyH.nil
                  go_simp
                  go_at_call 9
                  refine (hHn.out _ (by repeat (first | exact Below.refl _ _ | refine pw_below_drewN ?_ _ | refine below_drew ?_))).mono ?_
                  rintro e w11 ⟨rfl, h1⟩
                  replace h1 := h1.symm
                  subst h1
                  refine hK.out _ _ ?_ (fun hHeld => ?_)
                  · exact hHeld
                  clear hK K
                  try simp only [Act.put, List.setIfInBounds_toArray, List.set_cons_zero, List.set_cons_succ]
                  first
                    | (refine wpAnyH_take (i := 13) (oi := { dst := some 194, op := Op.binOp BinOp.neq 3 (Operand.tmp 191) (Operand.tmp 193) 3, type := 4, pos := "law.go:96", after := #[{ on := 10, ground := Ground.data }, { on := 12, ground := Ground.data }, { on := 8, ground := Ground.guard }], guard := some (8, false) }) (v := undef) rfl (by kernel_rfl) (by kernel_rfl) (by kernel_rfl) (fun _ _ _ h => h) (Or.inr ⟨by rfl, rfl⟩) (by assumption) ?_)
                    | (refine wpAnyH_take (i := 13) (oi := { dst := some 194, op := Op.binOp BinOp.neq 3 (Operand.tmp 191) (Operand.tmp 193) 3, type := 4, pos := "law.go:96", after := #[{ on := 10, ground := Ground.data }, { on := 12, ground := Ground.data }, { on := 8, ground := Ground.guard }], guard := some (8, false) }) (v := ?_) rfl (by kernel_rfl) (by kernel_rfl) (by kernel_rfl) (fun _ _ _ h => h) (Or.inl ⟨by rfl, ?_⟩) (by assumption) ?_; rotate_left; · (intro wq hSw; (try dsimp only at hSw); go_simp; try (with_reducible rfl)))
                  try simp only [Act.put, List.setIfInBounds_toArray, List.set_cons_zero, List.set_cons_succ]
                  first
                    | (refine wpAnyH_take (i := 14) (oi := { dst := some 195, op := Op.pick (Operand.tmp 189) (Operand.const (Value.bool true)) (Operand.tmp 194), type := 4, pos := "law.go:96", after := #[{ on := 8, ground := Ground.data }, { on := 13, ground := Ground.data }], guard := none }) (v := undef) rfl (by kernel_rfl) (by kernel_rfl) (by kernel_rfl) (fun _ _ _ h => h) (Or.inr ⟨by rfl, rfl⟩) (by assumption) ?_)
                    | (refine wpAnyH_take (i := 14) (oi := { dst := some 195, op := Op.pick (Operand.tmp 189) (Operand.const (Value.bool true)) (Operand.tmp 194), type := 4, pos := "law.go:96", after := #[{ on := 8, ground := Ground.data }, { on := 13, ground := Ground.data }], guard := none }) (v := ?_) rfl (by kernel_rfl) (by kernel_rfl) (by kernel_rfl) (fun _ _ _ h => h) (Or.inl ⟨by rfl, ?_⟩) (by assumption) ?_; rotate_left; · (intro wq hSw; (try dsimp only at hSw); go_simp; try (with_reducible rfl)))
                  try simp only [Act.put, List.setIfInBounds_toArray, List.set_cons_zero, List.set_cons_succ]
                  first
                    | (refine wpAnyH_take (i := 15) (oi := { dst := some 196, op := Op.move (Operand.tmp 195), type := 4, pos := "law.go:96", after := #[{ on := 14, ground := Ground.data }, { on := 10, ground := Ground.chain }], guard := none }) (v := undef) rfl (by kernel_rfl) (by kernel_rfl) (by kernel_rfl) (fun _ _ _ h => h) (Or.inr ⟨by rfl, rfl⟩) (by assumption) ?_)
                    | (refine wpAnyH_take (i := 15) (oi := { dst := some 196, op := Op.move (Operand.tmp 195), type := 4, pos := "law.go:96", after := #[{ on := 14, ground := Ground.data }, { on := 10, ground := Ground.chain }], guard := none }) (v := ?_) rfl (by kernel_rfl) (by kernel_rfl) (by kernel_rfl) (fun _ _ _ h => h) (Or.inl ⟨by rfl, ?_⟩) (by assumption) ?_; rotate_left; · (intro wq hSw; (try dsimp only at hSw); go_simp; try (with_reducible rfl)))
                  try simp only [Act.put, List.setIfInBounds_toArray, List.set_cons_zero, List.set_cons_succ]
                  first
                    | (refine wpAnyH_take (i := 16) (oi := { dst := some 197, op := Op.move (Operand.tmp 21), type := 4, pos := "law.go:96", after := #[{ on := 15, ground := Ground.guard }], guard := some (15, false) }) (v := undef) rfl (by kernel_rfl) (by kernel_rfl) (by kernel_rfl) (fun _ _ _ h => h) (Or.inr ⟨by rfl, rfl⟩) (by assumption) ?_)
                    | (refine wpAnyH_take (i := 16) (oi := { dst := some 197, op := Op.move (Operand.tmp 21), type := 4, pos := "law.go:96", after := #[{ on := 15, ground := Ground.guard }], guard := some (15, false) }) (v := ?_) rfl (by kernel_rfl) (by kernel_rfl) (by kernel_rfl) (fun _ _ _ h => h) (Or.inl ⟨by rfl, ?_⟩) (by assumption) ?_; rotate_left; · (intro wq hSw; (try dsimp only at hSw); go_simp; try (with_reducible rfl)))
                  try simp only [Act.put, List.setIfInBounds_toArray, List.set_cons_zero, List.set_cons_succ]
                  first
                    | (refine wpAnyH_take (i := 17) (oi := { dst := some 198, op := Op.move (Operand.tmp 24), type := 4, pos := "law.go:96", after := #[{ on := 15, ground := Ground.guard }], guard := some (15, false) }) (v := undef) rfl (by kernel_rfl) (by kernel_rfl) (by kernel_rfl) (fun _ _ _ h => h) (Or.inr ⟨by rfl, rfl⟩) (by assumption) ?_)
                    | (refine wpAnyH_take (i := 17) (oi := { dst := some 198, op := Op.move (Operand.tmp 24), type := 4, pos := "law.go:96", after := #[{ on := 15, ground := Ground.guard }], guard := some (15, false) }) (v := ?_) rfl (by kernel_rfl) (by kernel_rfl) (by kernel_rfl) (fun _ _ _ h => h) (Or.inl ⟨by rfl, ?_⟩) (by assumption) ?_; rotate_left; · (intro wq hSw; (try dsimp only at hSw); go_simp; try (with_reducible rfl)))
                  try simp only [Act.put, List.setIfInBounds_toArray, List.set_cons_zero, List.set_cons_succ]
                  first
                    | (refine wpAnyH_take (i := 18) (oi := { dst := some 199, op := Op.binOp BinOp.neq 4 (Operand.tmp 197) (Operand.tmp 198) 4, type := 4, pos := "law.go:96", after := #[{ on := 16, ground := Ground.data }, { on := 17, ground := Ground.data }, { on := 15, ground := Ground.guard }], guard := some (15, false) }) (v := undef) rfl (by kernel_rfl) (by kernel_rfl) (by kernel_rfl) (fun _ _ _ h => h) (Or.inr ⟨by rfl, rfl⟩) (by assumption) ?_)
                    | (refine wpAnyH_take (i := 18) (oi := { dst := some 199, op := Op.binOp BinOp.neq 4 (Operand.tmp 197) (Operand.tmp 198) 4, type := 4, pos := "law.go:96", after := #[{ on := 16, ground := Ground.data }, { on := 17, ground := Ground.data }, { on := 15, ground := Ground.guard }], guard := some (15, false) }) (v := ?_) rfl (by kernel_rfl) (by kernel_rfl) (by kernel_rfl) (fun _ _ _ h => h) (Or.inl ⟨by rfl, ?_⟩) (by assumption) ?_; rotate_left; · (intro wq hSw; (try dsimp only at hSw); go_simp; try (with_reducible rfl)))
                  try simp only [Act.put, List.setIfInBounds_toArray, List.set_cons_zero, List.set_cons_succ]
                  first
                    | (refine wpAnyH_take (i := 19) (oi := { dst := some 200, op := Op.pick (Operand.tmp 196) (Operand.const (Value.bool true)) (Operand.tmp 199), type := 4, pos := "law.go:96", after := #[{ on := 15, ground := Ground.data }, { on := 18, ground := Ground.data }], guard := none }) (v := undef) rfl (by kernel_rfl) (by kernel_rfl) (by kernel_rfl) (fun _ _ _ h => h) (Or.inr ⟨by rfl, rfl⟩) (by assumption) ?_)
                    | (refine wpAnyH_take (i := 19) (oi := { dst := some 200, op := Op.pick (Operand.tmp 196) (Operand.const (Value.bool true)) (Operand.tmp 199), type := 4, pos := "law.go:96", after := #[{ on := 15, ground := Ground.data }, { on := 18, ground := Ground.data }], guard := none }) (v := ?_) rfl (by kernel_rfl) (by kernel_rfl) (by kernel_rfl) (fun _ _ _ h => h) (Or.inl ⟨by rfl, ?_⟩) (by assumption) ?_; rotate_left; · (intro wq hSw; (try dsimp only at hSw); go_simp; try (with_reducible rfl)))
                  try simp only [Act.put, List.setIfInBounds_toArray, List.set_cons_zero, List.set_cons_succ]
                  first
                    | (refine wpAnyH_take (i := 20) (oi := { dst := some 201, op := Op.move (Operand.tmp 200), type := 4, pos := "law.go:96", after := #[{ on := 19, ground := Ground.data }, { on := 15, ground := Ground.chain }], guard := none }) (v := undef) rfl (by kernel_rfl) (by kernel_rfl) (by kernel_rfl) (fun _ _ _ h => h) (Or.inr ⟨by rfl, rfl⟩) (by assumption) ?_)
                    | (refine wpAnyH_take (i := 20) (oi := { dst := some 201, op := Op.move (Operand.tmp 200), type := 4, pos := "law.go:96", after := #[{ on := 19, ground := Ground.data }, { on := 15, ground := Ground.chain }], guard := none }) (v := ?_) rfl (by kernel_rfl) (by kernel_rfl) (by kernel_rfl) (fun _ _ _ h => h) (Or.inl ⟨by rfl, ?_⟩) (by assumption) ?_; rotate_left; · (intro wq hSw; (try dsimp only at hSw); go_simp; try (with_reducible rfl)))
                  try simp only [Act.put, List.setIfInBounds_toArray, List.set_cons_zero, List.set_cons_succ]
                  first
                    | (refine wpAnyH_take (i := 21) (oi := { dst := some 202, op := Op.move (Operand.tmp 24), type := 4, pos := "law.go:96", after := #[{ on := 20, ground := Ground.guard }], guard := some (20, false) }) (v := undef) rfl (by kernel_rfl) (by kernel_rfl) (by kernel_rfl) (fun _ _ _ h => h) (Or.inr ⟨by rfl, rfl⟩) (by assumption) ?_)
                    | (refine wpAnyH_take (i := 21) (oi := { dst := some 202, op := Op.move (Operand.tmp 24), type := 4, pos := "law.go:96", after := #[{ on := 20, ground := Ground.guard }], guard := some (20, false) }) (v := ?_) rfl (by kernel_rfl) (by kernel_rfl) (by kernel_rfl) (fun _ _ _ h => h) (Or.inl ⟨by rfl, ?_⟩) (by assumption) ?_; rotate_left; · (intro wq hSw; (try dsimp only at hSw); go_simp; try (with_reducible rfl)))
                  try simp only [Act.put, List.setIfInBounds_toArray, List.set_cons_zero, List.set_cons_succ]
                  first
                    | (refine wpAnyH_take (i := 22) (oi := { dst := some 203, op := Op.move (Operand.tmp 202), type := 4, pos := "law.go:96", after := #[{ on := 21, ground := Ground.data }, { on := 20, ground := Ground.chain }, { on := 20, ground := Ground.guard }], guard := some (20, false) }) (v := undef) rfl (by kernel_rfl) (by kernel_rfl) (by kernel_rfl) (fun _ _ _ h => h) (Or.inr ⟨by rfl, rfl⟩) (by assumption) ?_)
                    | (refine wpAnyH_take (i := 22) (oi := { dst := some 203, op := Op.move (Operand.tmp 202), type := 4, pos := "law.go:96", after := #[{ on := 21, ground := Ground.data }, { on := 20, ground := Ground.chain }, { on := 20, ground := Ground.guard }], guard := some (20, false) }) (v := ?_) rfl (by kernel_rfl) (by kernel_rfl) (by kernel_rfl) (fun _ _ _ h => h) (Or.inl ⟨by rfl, ?_⟩) (by assumption) ?_; rotate_left; · (intro wq hSw; (try dsimp only at hSw); go_simp; try (with_reducible rfl)))
                  try simp only [Act.put, List.setIfInBounds_toArray, List.set_cons_zero, List.set_cons_succ]
                  first
                    | (refine wpAnyH_take (i := 23) (oi := { dst := some 204, op := Op.move (Operand.tmp 20), type := 3, pos := "law.go:96", after := #[{ on := 22, ground := Ground.guard }], guard := some (22, true) }) (v := undef) rfl (by kernel_rfl) (by kernel_rfl) (by kernel_rfl) (fun _ _ _ h => h) (Or.inr ⟨by rfl, rfl⟩) (by assumption) ?_)
                    | (refine wpAnyH_take (i := 23) (oi := { dst := some 204, op := Op.move (Operand.tmp 20), type := 3, pos := "law.go:96", after := #[{ on := 22, ground := Ground.guard }], guard := some (22, true) }) (v := ?_) rfl (by kernel_rfl) (by kernel_rfl) (by kernel_rfl) (fun _ _ _ h => h) (Or.inl ⟨by rfl, ?_⟩) (by assumption) ?_; rotate_left; · (intro wq hSw; (try dsimp only at hSw); go_simp; try (with_reducible rfl)))
                  try simp only [Act.put, List.setIfInBounds_toArray, List.set_cons_zero, List.set_cons_succ]
                  first
                    | (refine wpAnyH_take (i := 24) (oi := { dst := some 205, op := Op.fieldAddr 44 (Operand.tmp 14) 1, type := 0, pos := "law.go:96", after := #[{ on := 22, ground := Ground.guard }], guard := some (22, true) }) (v := undef) rfl (by kernel_rfl) (by kernel_rfl) (by kernel_rfl) (fun _ _ _ h => h) (Or.inr ⟨by rfl, rfl⟩) (by assumption) ?_)
                    | (refine wpAnyH_take (i := 24) (oi := { dst := some 205, op := Op.fieldAddr 44 (Operand.tmp 14) 1, type := 0, pos := "law.go:96", after := #[{ on := 22, ground := Ground.guard }], guard := some (22, true) }) (v := ?_) rfl (by kernel_rfl) (by kernel_rfl) (by kernel_rfl) (fun _ _ _ h => h) (Or.inl ⟨by rfl, ?_⟩) (by assumption) ?_; rotate_left; · (intro wq hSw; (try dsimp only at hSw); go_simp; try (with_reducible rfl)))
                  try simp only [Act.put, List.setIfInBounds_toArray, List.set_cons_zero, List.set_cons_succ]
                  first
                    | (refine wpAnyH_take (i := 25) (oi := { dst := some 206, op := Op.load 3 (Operand.tmp 205), type := 3, pos := "law.go:96", after := #[{ on := 24, ground := Ground.data }, { on := 22, ground := Ground.guard }], guard := some (22, true) }) (v := undef) rfl (by kernel_rfl) (by kernel_rfl) (by kernel_rfl) (fun _ _ _ h => h) (Or.inr ⟨by rfl, rfl⟩) (by assumption) ?_)
                    | (refine wpAnyH_take (i := 25) (oi := { dst := some 206, op := Op.load 3 (Operand.tmp 205), type := 3, pos := "law.go:96", after := #[{ on := 24, ground := Ground.data }, { on := 22, ground := Ground.guard }], guard := some (22, true) }) (v := ?_) rfl (by kernel_rfl) (by kernel_rfl) (by kernel_rfl) (fun _ _ _ h => h) (Or.inl ⟨by rfl, ?_⟩) (by assumption) ?_; rotate_left; · (intro wq hSw; (try dsimp only at hSw); go_simp; try (with_reducible rfl)))
                  try simp only [Act.put, List.setIfInBounds_toArray, List.set_cons_zero, List.set_cons_succ]
                  first
                    | (refine wpAnyH_take (i := 26) (oi := { dst := some 207, op := Op.fieldAddr 41 (Operand.tmp 11) 0, type := 0, pos := "law.go:96", after := #[{ on := 22, ground := Ground.guard }], guard := some (22, true) }) (v := undef) rfl (by kernel_rfl) (by kernel_rfl) (by kernel_rfl) (fun _ _ _ h => h) (Or.inr ⟨by rfl, rfl⟩) (by assumption) ?_)
                    | (refine wpAnyH_take (i := 26) (oi := { dst := some 207, op := Op.fieldAddr 41 (Operand.tmp 11) 0, type := 0, pos := "law.go:96", after := #[{ on := 22, ground := Ground.guard }], guard := some (22, true) }) (v := ?_) rfl (by kernel_rfl) (by kernel_rfl) (by kernel_rfl) (fun _ _ _ h => h) (Or.inl ⟨by rfl, ?_⟩) (by assumption) ?_; rotate_left; · (intro wq hSw; (try dsimp only at hSw); go_simp; try (with_reducible rfl)))
                  try simp only [Act.put, List.setIfInBounds_toArray, List.set_cons_zero, List.set_cons_succ]
                  first
                    | (refine wpAnyH_take (i := 27) (oi := { dst := some 208, op := Op.indexAddr 39 (Operand.tmp 207) (Operand.tmp 206), type := 0, pos := "law.go:96", after := #[{ on := 26, ground := Ground.data }, { on := 25, ground := Ground.data }, { on := 22, ground := Ground.guard }], guard := some (22, true) }) (v := undef) rfl (by kernel_rfl) (by kernel_rfl) (by kernel_rfl) (fun _ _ _ h => h) (Or.inr ⟨by rfl, rfl⟩) (by assumption) ?_)
                    | (refine wpAnyH_take (i := 27) (oi := { dst := some 208, op := Op.indexAddr 39 (Operand.tmp 207) (Operand.tmp 206), type := 0, pos := "law.go:96", after := #[{ on := 26, ground := Ground.data }, { on := 25, ground := Ground.data }, { on := 22, ground := Ground.guard }], guard := some (22, true) }) (v := ?_) rfl (by kernel_rfl) (by kernel_rfl) (by kernel_rfl) (fun _ _ _ h => h) (Or.inl ⟨by rfl, ?_⟩) (by assumption) ?_; rotate_left; · (intro wq hSw; (try dsimp only at hSw); go_simp; try (with_reducible rfl)))
                  try simp only [Act.put, List.setIfInBounds_toArray, List.set_cons_zero, List.set_cons_succ]
                  first
                    | (refine wpAnyH_take (i := 28) (oi := { dst := some 209, op := Op.load 3 (Operand.tmp 208), type := 3, pos := "law.go:96", after := #[{ on := 27, ground := Ground.data }, { on := 22, ground := Ground.guard }], guard := some (22, true) }) (v := undef) rfl (by kernel_rfl) (by kernel_rfl) (by kernel_rfl) (fun _ _ _ h => h) (Or.inr ⟨by rfl, rfl⟩) (by assumption) ?_)
                    | (refine wpAnyH_take (i := 28) (oi := { dst := some 209, op := Op.load 3 (Operand.tmp 208), type := 3, pos := "law.go:96", after := #[{ on := 27, ground := Ground.data }, { on := 22, ground := Ground.guard }], guard := some (22, true) }) (v := ?_) rfl (by kernel_rfl) (by kernel_rfl) (by kernel_rfl) (fun _ _ _ h => h) (Or.inl ⟨by rfl, ?_⟩) (by assumption) ?_; rotate_left; · (intro wq hSw; (try dsimp only at hSw); go_simp; try (with_reducible rfl)))
                  try simp only [Act.put, List.setIfInBounds_toArray, List.set_cons_zero, List.set_cons_succ]
                  first
                    | (refine wpAnyH_take (i := 29) (oi := { dst := some 210, op := Op.binOp BinOp.neq 3 (Operand.tmp 204) (Operand.tmp 209) 3, type := 4, pos := "law.go:96", after := #[{ on := 23, ground := Ground.data }, { on := 28, ground := Ground.data }, { on := 22, ground := Ground.guard }], guard := some (22, true) }) (v := undef) rfl (by kernel_rfl) (by kernel_rfl) (by kernel_rfl) (fun _ _ _ h => h) (Or.inr ⟨by rfl, rfl⟩) (by assumption) ?_)
                    | (refine wpAnyH_take (i := 29) (oi := { dst := some 210, op := Op.binOp BinOp.neq 3 (Operand.tmp 204) (Operand.tmp 209) 3, type := 4, pos := "law.go:96", after := #[{ on := 23, ground := Ground.data }, { on := 28, ground := Ground.data }, { on := 22, ground := Ground.guard }], guard := some (22, true) }) (v := ?_) rfl (by kernel_rfl) (by kernel_rfl) (by kernel_rfl) (fun _ _ _ h => h) (Or.inl ⟨by rfl, ?_⟩) (by assumption) ?_; rotate_left; · (intro wq hSw; (try dsimp only at hSw); go_simp; try (with_reducible rfl)))
                  try simp only [Act.put, List.setIfInBounds_toArray, List.set_cons_zero, List.set_cons_succ]
                  first
                    | (refine wpAnyH_take (i := 30) (oi := { dst := some 211, op := Op.pick (Operand.tmp 203) (Operand.tmp 210) (Operand.const (Value.bool false)), type := 4, pos := "law.go:96", after := #[{ on := 22, ground := Ground.data }, { on := 29, ground := Ground.data }, { on := 20, ground := Ground.guard }], guard := some (20, false) }) (v := undef) rfl (by kernel_rfl) (by kernel_rfl) (by kernel_rfl) (fun _ _ _ h => h) (Or.inr ⟨by rfl, rfl⟩) (by assumption) ?_)
                    | (refine wpAnyH_take (i := 30) (oi := { dst := some 211, op := Op.pick (Operand.tmp 203) (Operand.tmp 210) (Operand.const (Value.bool false)), type := 4, pos := "law.go:96", after := #[{ on := 22, ground := Ground.data }, { on := 29, ground := Ground.data }, { on := 20, ground := Ground.guard }], guard := some (20, false) }) (v := ?_) rfl (by kernel_rfl) (by kernel_rfl) (by kernel_rfl) (fun _ _ _ h => h) (Or.inl ⟨by rfl, ?_⟩) (by assumption) ?_; rotate_left; · (intro wq hSw; (try dsimp only at hSw); go_simp; try (with_reducible rfl)))
                  try simp only [Act.put, List.setIfInBounds_toArray, List.set_cons_zero, List.set_cons_succ]
                  first
                    | (refine wpAnyH_take (i := 31) (oi := { dst := some 212, op := Op.pick (Operand.tmp 201) (Operand.const (Value.bool true)) (Operand.tmp 211), type := 4, pos := "law.go:96", after := #[{ on := 20, ground := Ground.data }, { on := 30, ground := Ground.data }], guard := none }) (v := undef) rfl (by kernel_rfl) (by kernel_rfl) (by kernel_rfl) (fun _ _ _ h => h) (Or.inr ⟨by rfl, rfl⟩) (by assumption) ?_)
                    | (refine wpAnyH_take (i := 31) (oi := { dst := some 212, op := Op.pick (Operand.tmp 201) (Operand.const (Value.bool true)) (Operand.tmp 211), type := 4, pos := "law.go:96", after := #[{ on := 20, ground := Ground.data }, { on := 30, ground := Ground.data }], guard := none }) (v := ?_) rfl (by kernel_rfl) (by kernel_rfl) (by kernel_rfl) (fun _ _ _ h => h) (Or.inl ⟨by rfl, ?_⟩) (by assumption) ?_; rotate_left; · (intro wq hSw; (try dsimp only at hSw); go_simp; try (with_reducible rfl)))
                  try simp only [Act.put, List.setIfInBounds_toArray, List.set_cons_zero, List.set_cons_succ]
                  first
                    | (refine wpAnyH_take (i := 32) (oi := { dst := some 213, op := Op.move (Operand.tmp 212), type := 4, pos := "law.go:96", after := #[{ on := 31, ground := Ground.data }, { on := 22, ground := Ground.chain }], guard := none }) (v := undef) rfl (by kernel_rfl) (by kernel_rfl) (by kernel_rfl) (fun _ _ _ h => h) (Or.inr ⟨by rfl, rfl⟩) (by assumption) ?_)
                    | (refine wpAnyH_take (i := 32) (oi := { dst := some 213, op := Op.move (Operand.tmp 212), type := 4, pos := "law.go:96", after := #[{ on := 31, ground := Ground.data }, { on := 22, ground := Ground.chain }], guard := none }) (v := ?_) rfl (by kernel_rfl) (by kernel_rfl) (by kernel_rfl) (fun _ _ _ h => h) (Or.inl ⟨by rfl, ?_⟩) (by assumption) ?_; rotate_left; · (intro wq hSw; (try dsimp only at hSw); go_simp; try (with_reducible rfl)))
                  try simp only [Act.put, List.setIfInBounds_toArray, List.set_cons_zero, List.set_cons_succ]
                  first
                    | (refine wpAnyH_take (i := 33) (oi := { dst := some 214, op := Op.move (Operand.tmp 23), type := 4, pos := "law.go:96", after := #[{ on := 32, ground := Ground.guard }], guard := some (32, false) }) (v := undef) rfl (by kernel_rfl) (by kernel_rfl) (by kernel_rfl) (fun _ _ _ h => h) (Or.inr ⟨by rfl, rfl⟩) (by assumption) ?_)
                    | (refine wpAnyH_take (i := 33) (oi := { dst := some 214, op := Op.move (Operand.tmp 23), type := 4, pos := "law.go:96", after := #[{ on := 32, ground := Ground.guard }], guard := some (32, false) }) (v := ?_) rfl (by kernel_rfl) (by kernel_rfl) (by kernel_rfl) (fun _ _ _ h => h) (Or.inl ⟨by rfl, ?_⟩) (by assumption) ?_; rotate_left; · (intro wq hSw; (try dsimp only at hSw); go_simp; try (with_reducible rfl)))
                  try simp only [Act.put, List.setIfInBounds_toArray, List.set_cons_zero, List.set_cons_succ]
                  first
                    | (refine wpAnyH_take (i := 34) (oi := { dst := some 215, op := Op.move (Operand.tmp 25), type := 3, pos := "law.go:96", after := #[{ on := 32, ground := Ground.guard }], guard := some (32, false) }) (v := undef) rfl (by kernel_rfl) (by kernel_rfl) (by kernel_rfl) (fun _ _ _ h => h) (Or.inr ⟨by rfl, rfl⟩) (by assumption) ?_)
                    | (refine wpAnyH_take (i := 34) (oi := { dst := some 215, op := Op.move (Operand.tmp 25), type := 3, pos := "law.go:96", after := #[{ on := 32, ground := Ground.guard }], guard := some (32, false) }) (v := ?_) rfl (by kernel_rfl) (by kernel_rfl) (by kernel_rfl) (fun _ _ _ h => h) (Or.inl ⟨by rfl, ?_⟩) (by assumption) ?_; rotate_left; · (intro wq hSw; (try dsimp only at hSw); go_simp; try (with_reducible rfl)))
                  try simp only [Act.put, List.setIfInBounds_toArray, List.set_cons_zero, List.set_cons_succ]
                  first
                    | (refine wpAnyH_take (i := 35) (oi := { dst := some 216, op := Op.binOp BinOp.geq 3 (Operand.tmp 215) (Operand.const (Value.int IntKind.i64 0)) 3, type := 4, pos := "law.go:96", after := #[{ on := 34, ground := Ground.data }, { on := 32, ground := Ground.guard }], guard := some (32, false) }) (v := undef) rfl (by kernel_rfl) (by kernel_rfl) (by kernel_rfl) (fun _ _ _ h => h) (Or.inr ⟨by rfl, rfl⟩) (by assumption) ?_)
                    | (refine wpAnyH_take (i := 35) (oi := { dst := some 216, op := Op.binOp BinOp.geq 3 (Operand.tmp 215) (Operand.const (Value.int IntKind.i64 0)) 3, type := 4, pos := "law.go:96", after := #[{ on := 34, ground := Ground.data }, { on := 32, ground := Ground.guard }], guard := some (32, false) }) (v := ?_) rfl (by kernel_rfl) (by kernel_rfl) (by kernel_rfl) (fun _ _ _ h => h) (Or.inl ⟨by rfl, ?_⟩) (by assumption) ?_; rotate_left; · (intro wq hSw; (try dsimp only at hSw); go_simp; try (with_reducible rfl)))
                  try simp only [Act.put, List.setIfInBounds_toArray, List.set_cons_zero, List.set_cons_succ]
                  first
                    | (refine wpAnyH_take (i := 36) (oi := { dst := some 217, op := Op.binOp BinOp.neq 4 (Operand.tmp 214) (Operand.tmp 216) 4, type := 4, pos := "law.go:96", after := #[{ on := 33, ground := Ground.data }, { on := 35, ground := Ground.data }, { on := 32, ground := Ground.guard }], guard := some (32, false) }) (v := undef) rfl (by kernel_rfl) (by kernel_rfl) (by kernel_rfl) (fun _ _ _ h => h) (Or.inr ⟨by rfl, rfl⟩) (by assumption) ?_)
                    | (refine wpAnyH_take (i := 36) (oi := { dst := some 217, op := Op.binOp BinOp.neq 4 (Operand.tmp 214) (Operand.tmp 216) 4, type := 4, pos := "law.go:96", after := #[{ on := 33, ground := Ground.data }, { on := 35, ground := Ground.data }, { on := 32, ground := Ground.guard }], guard := some (32, false) }) (v := ?_) rfl (by kernel_rfl) (by kernel_rfl) (by kernel_rfl) (fun _ _ _ h => h) (Or.inl ⟨by rfl, ?_⟩) (by assumption) ?_; rotate_left; · (intro wq hSw; (try dsimp only at hSw); go_simp; try (with_reducible rfl)))
                  try simp only [Act.put, List.setIfInBounds_toArray, List.set_cons_zero, List.set_cons_succ]
                  first
                    | (refine wpAnyH_take (i := 37) (oi := { dst := some 218, op := Op.pick (Operand.tmp 213) (Operand.const (Value.bool true)) (Operand.tmp 217), type := 4, pos := "law.go:96", after := #[{ on := 32, ground := Ground.data }, { on := 36, ground := Ground.data }], guard := none }) (v := undef) rfl (by kernel_rfl) (by kernel_rfl) (by kernel_rfl) (fun _ _ _ h => h) (Or.inr ⟨by rfl, rfl⟩) (by assumption) ?_)
                    | (refine wpAnyH_take (i := 37) (oi := { dst := some 218, op := Op.pick (Operand.tmp 213) (Operand.const (Value.bool true)) (Operand.tmp 217), type := 4, pos := "law.go:96", after := #[{ on := 32, ground := Ground.data }, { on := 36, ground := Ground.data }], guard := none }) (v := ?_) rfl (by kernel_rfl) (by kernel_rfl) (by kernel_rfl) (fun _ _ _ h => h) (Or.inl ⟨by rfl, ?_⟩) (by assumption) ?_; rotate_left; · (intro wq hSw; (try dsimp only at hSw); go_simp; try (with_reducible rfl)))
                  try simp only [Act.put, List.setIfInBounds_toArray, List.set_cons_zero, List.set_cons_succ]
                  first
                    | (refine wpAnyH_take (i := 38) (oi := { dst := some 219, op := Op.move (Operand.tmp 218), type := 4, pos := "law.go:96", after := #[{ on := 37, ground := Ground.data }, { on := 32, ground := Ground.chain }], guard := none }) (v := undef) rfl (by kernel_rfl) (by kernel_rfl) (by kernel_rfl) (fun _ _ _ h => h) (Or.inr ⟨by rfl, rfl⟩) (by assumption) ?_)
                    | (refine wpAnyH_take (i := 38) (oi := { dst := some 219, op := Op.move (Operand.tmp 218), type := 4, pos := "law.go:96", after := #[{ on := 37, ground := Ground.data }, { on := 32, ground := Ground.chain }], guard := none }) (v := ?_) rfl (by kernel_rfl) (by kernel_rfl) (by kernel_rfl) (fun _ _ _ h => h) (Or.inl ⟨by rfl, ?_⟩) (by assumption) ?_; rotate_left; · (intro wq hSw; (try dsimp only at hSw); go_simp; try (with_reducible rfl)))
                  try simp only [Act.put, List.setIfInBounds_toArray, List.set_cons_zero, List.set_cons_succ]
                  first
                    | (refine wpAnyH_take (i := 39) (oi := { dst := some 220, op := Op.move (Operand.tmp 22), type := 3, pos := "law.go:96", after := #[{ on := 38, ground := Ground.guard }], guard := some (38, false) }) (v := undef) rfl (by kernel_rfl) (by kernel_rfl) (by kernel_rfl) (fun _ _ _ h => h) (Or.inr ⟨by rfl, rfl⟩) (by assumption) ?_)
                    | (refine wpAnyH_take (i := 39) (oi := { dst := some 220, op := Op.move (Operand.tmp 22), type := 3, pos := "law.go:96", after := #[{ on := 38, ground := Ground.guard }], guard := some (38, false) }) (v := ?_) rfl (by kernel_rfl) (by kernel_rfl) (by kernel_rfl) (fun _ _ _ h => h) (Or.inl ⟨by rfl, ?_⟩) (by assumption) ?_; rotate_left; · (intro wq hSw; (try dsimp only at hSw); go_simp; try (with_reducible rfl)))
                  try simp only [Act.put, List.setIfInBounds_toArray, List.set_cons_zero, List.set_cons_succ]
                  first
                    | (refine wpAnyH_take (i := 40) (oi := { dst := some 221, op := Op.move (Operand.tmp 25), type := 3, pos := "law.go:96", after := #[{ on := 38, ground := Ground.guard }], guard := some (38, false) }) (v := undef) rfl (by kernel_rfl) (by kernel_rfl) (by kernel_rfl) (fun _ _ _ h => h) (Or.inr ⟨by rfl, rfl⟩) (by assumption) ?_)
                    | (refine wpAnyH_take (i := 40) (oi := { dst := some 221, op := Op.move (Operand.tmp 25), type := 3, pos := "law.go:96", after := #[{ on := 38, ground := Ground.guard }], guard := some (38, false) }) (v := ?_) rfl (by kernel_rfl) (by kernel_rfl) (by kernel_rfl) (fun _ _ _ h => h) (Or.inl ⟨by rfl, ?_⟩) (by assumption) ?_; rotate_left; · (intro wq hSw; (try dsimp only at hSw); go_simp; try (with_reducible rfl)))
                  try simp only [Act.put, List.setIfInBounds_toArray, List.set_cons_zero, List.set_cons_succ]
                  first
                    | (refine wpAnyH_take (i := 41) (oi := { dst := some 222, op := Op.call { callee := Callee.builtin Builtin.max, args := #[Operand.const (Value.int IntKind.i64 0), Operand.tmp 221], argTypes := #[3, 3] }, type := 3, pos := "law.go:96", after := #[{ on := 40, ground := Ground.data }, { on := 38, ground := Ground.guard }], guard := some (38, false) }) (v := undef) rfl (by kernel_rfl) (by kernel_rfl) (by kernel_rfl) (fun _ _ _ h => h) (Or.inr ⟨by rfl, rfl⟩) (by assumption) ?_)
                    | (refine wpAnyH_take (i := 41) (oi := { dst := some 222, op := Op.call { callee := Callee.builtin Builtin.max, args := #[Operand.const (Value.int IntKind.i64 0), Operand.tmp 221], argTypes := #[3, 3] }, type := 3, pos := "law.go:96", after := #[{ on := 40, ground := Ground.data }, { on := 38, ground := Ground.guard }], guard := some (38, false) }) (v := ?_) rfl (by kernel_rfl) (by kernel_rfl) (by kernel_rfl) (fun _ _ _ h => h) (Or.inl ⟨by rfl, ?_⟩) (by assumption) ?_; rotate_left; · (intro wq hSw; (try dsimp only at hSw); go_simp; try (with_reducible rfl)))
                  try simp only [Act.put, List.setIfInBounds_toArray, List.set_cons_zero, List.set_cons_succ]
                  first
                    | (refine wpAnyH_take (i := 42) (oi := { dst := some 223, op := Op.binOp BinOp.neq 3 (Operand.tmp 220) (Operand.tmp 222) 3, type := 4, pos := "law.go:96", after := #[{ on := 39, ground := Ground.data }, { on := 41, ground := Ground.data }, { on := 38, ground := Ground.guard }], guard := some (38, false) }) (v := undef) rfl (by kernel_rfl) (by kernel_rfl) (by kernel_rfl) (fun _ _ _ h => h) (Or.inr ⟨by rfl, rfl⟩) (by assumption) ?_)
                    | (refine wpAnyH_take (i := 42) (oi := { dst := some 223, op := Op.binOp BinOp.neq 3 (Operand.tmp 220) (Operand.tmp 222) 3, type := 4, pos := "law.go:96", after := #[{ on := 39, ground := Ground.data }, { on := 41, ground := Ground.data }, { on := 38, ground := Ground.guard }], guard := some (38, false) }) (v := ?_) rfl (by kernel_rfl) (by kernel_rfl) (by kernel_rfl) (fun _ _ _ h => h) (Or.inl ⟨by rfl, ?_⟩) (by assumption) ?_; rotate_left; · (intro wq hSw; (try dsimp only at hSw); go_simp; try (with_reducible rfl)))
                  try simp only [Act.put, List.setIfInBounds_toArray, List.set_cons_zero, List.set_cons_succ]
                  first
                    | (refine wpAnyH_take (i := 43) (oi := { dst := some 224, op := Op.pick (Operand.tmp 219) (Operand.const (Value.bool true)) (Operand.tmp 223), type := 4, pos := "law.go:96", after := #[{ on := 38, ground := Ground.data }, { on := 42, ground := Ground.data }], guard := none }) (v := undef) rfl (by kernel_rfl) (by kernel_rfl) (by kernel_rfl) (fun _ _ _ h => h) (Or.inr ⟨by rfl, rfl⟩) (by assumption) ?_)
                    | (refine wpAnyH_take (i := 43) (oi := { dst := some 224, op := Op.pick (Operand.tmp 219) (Operand.const (Value.bool true)) (Operand.tmp 223), type := 4, pos := "law.go:96", after := #[{ on := 38, ground := Ground.data }, { on := 42, ground := Ground.data }], guard := none }) (v := ?_) rfl (by kernel_rfl) (by kernel_rfl) (by kernel_rfl) (fun _ _ _ h => h) (Or.inl ⟨by rfl, ?_⟩) (by assumption) ?_; rotate_left; · (intro wq hSw; (try dsimp only at hSw); go_simp; try (with_reducible rfl)))
                  try simp only [Act.put, List.setIfInBounds_toArray, List.set_cons_zero, List.set_cons_succ]
                  refine wpAnyH_done (by kernel_rfl) ?_ _
                  go_wp2
                  go_roundg k
                  case measure => omega
                  case rel => exact ⟨i + 1, L2, q2, rfl, by first | rw [ws.out] | rfl, HQ2, ⟨by have := HK.out; omega⟩, ⟨HI3.out.below (by repeat (first | exact Below.refl _ _ | refine pw_below_drewN ?_ _ | refine below_drew ?_))⟩⟩
            · have g1 : decide (x.f1 ≥ 0) = true := decide_eq_true (by omega)
              have g1' : decide (0 ≤ x.f1) = true := decide_eq_true (by omega)
              have g2 : decide (x.f1 < 96) = false := decide_eq_false (by omega)
              have g3 : 0 ≤ x.f1 := by omega
              have g4 : ¬ x.f1 < 96 := hn1
              rw [inC_out (by omega)] at hPg
              clear hn0 hn1 hgl
              as_aux_lemma =>
                replace hPg := Aside0.mk hPg
                have hps := Aside0.mk HI2.out.ps
                obtain ⟨P, hP⟩ : ∃ P, P = pOf L2 := ⟨_, rfl⟩
                rw [← hP] at hps hP2l hRF
                replace hP := Aside0.mk hP
                go_upto_region 36 with (first | ((with_reducible refine gate_ld rfl ?_); refine wl_ld rfl _ rfl rfl hps.out hP2l.out ?_) | (go_at_call 13; refine hPg.out.mono ?_; rintro e w1 ⟨rfl, h1⟩; replace h1 := h1.symm; subst h1) | (go_at_call 14; refine hFr.out.mono ?_; rintro e w1 ⟨rfl, h1⟩; replace h1 := h1.symm; subst h1) | (go_at_call 21; refine hRF.out.mono ?_; rintro e w10 ⟨rfl, hb10⟩; replace hb10 := Aside0.mk hb10))
                have HI3 := Aside0.mk (HI2.out.below hb10.out)
                have kh3 := cell_bel hb10.out kh
                clear kh y1 y2 hps 
                have hLn := fun (w' : World) (hb : Below w10.heap.size w10 w') => len_calls g L2 hLl.out w' (blk_below HI3.out.cs hb)
                have hHn := fun (w' : World) (hb : Below w10.heap.size w10 w') => hand_calls g L2 hLl.out w' (blk_below HI3.out.cs hb)
                rw [← HQ2.out] at hLn
                rw [← hhv.out] at hHn
                replace hLn := Aside0.mk hLn
                replace hHn := Aside0.mk hHn
                refine wp_region_held_drew (S := fun w' : World => w'.cell? ⟨b, 96, none⟩ = some (.int .i64 hv)) (by kernel_rfl) kh3 (fun hHeld => ?_)
                first
                  | (refine wpAnyH_take (i := 0) (oi := { dst := some 181, op := Op.move (Operand.tmp 15), type := 4, pos := "law.go:96", after := #[], guard := none }) (v := undef) rfl (by kernel_rfl) (by kernel_rfl) (by kernel_rfl) (fun _ _ _ h => h) (Or.inr ⟨by rfl, rfl⟩) (by assumption) ?_)
                  | (refine wpAnyH_take (i := 0) (oi := { dst := some 181, op := Op.move (Operand.tmp 15), type := 4, pos := "law.go:96", after := #[], guard := none }) (v := ?_) rfl (by kernel_rfl) (by kernel_rfl) (by kernel_rfl) (fun _ _ _ h => h) (Or.inl ⟨by rfl, ?_⟩) (by assumption) ?_; rotate_left; · (intro wq hSw; (try dsimp only at hSw); go_simp; try (with_reducible rfl)))
                try simp only [Act.put, List.setIfInBounds_toArray, List.set_cons_zero, List.set_cons_succ]
                first
                  | (refine wpAnyH_take (i := 1) (oi := { dst := some 182, op := Op.unOp UnOp.not 4 (Operand.tmp 181), type := 4, pos := "law.go:96", after := #[{ on := 0, ground := Ground.data }], guard := none }) (v := undef) rfl (by kernel_rfl) (by kernel_rfl) (by kernel_rfl) (fun _ _ _ h => h) (Or.inr ⟨by rfl, rfl⟩) (by assumption) ?_)
                  | (refine wpAnyH_take (i := 1) (oi := { dst := some 182, op := Op.unOp UnOp.not 4 (Operand.tmp 181), type := 4, pos := "law.go:96", after := #[{ on := 0, ground := Ground.data }], guard := none }) (v := ?_) rfl (by kernel_rfl) (by kernel_rfl) (by kernel_rfl) (fun _ _ _ h => h) (Or.inl ⟨by rfl, ?_⟩) (by assumption) ?_; rotate_left; · (intro wq hSw; (try dsimp only at hSw); go_simp; try (with_reducible rfl)))
                try simp only [Act.put, List.setIfInBounds_toArray, List.set_cons_zero, List.set_cons_succ]
                first
                  | (refine wpAnyH_take (i := 2) (oi := { dst := some 183, op := Op.move (Operand.tmp 182), type := 4, pos := "law.go:96", after := #[{ on := 1, ground := Ground.data }], guard := none }) (v := undef) rfl (by kernel_rfl) (by kernel_rfl) (by kernel_rfl) (fun _ _ _ h => h) (Or.inr ⟨by rfl, rfl⟩) (by assumption) ?_)
                  | (refine wpAnyH_take (i := 2) (oi := { dst := some 183, op := Op.move (Operand.tmp 182), type := 4, pos := "law.go:96", after := #[{ on := 1, ground := Ground.data }], guard := none }) (v := ?_) rfl (by kernel_rfl) (by kernel_rfl) (by kernel_rfl) (fun _ _ _ h => h) (Or.inl ⟨by rfl, ?_⟩) (by assumption) ?_; rotate_left; · (intro wq hSw; (try dsimp only at hSw); go_simp; try (with_reducible rfl)))
                try simp only [Act.put, List.setIfInBounds_toArray, List.set_cons_zero, List.set_cons_succ]
                first
                  | (refine wpAnyH_take (i := 3) (oi := { dst := some 184, op := Op.move (Operand.tmp 10), type := 24, pos := "law.go:96", after := #[{ on := 2, ground := Ground.guard }], guard := some (2, false) }) (v := undef) rfl (by kernel_rfl) (by kernel_rfl) (by kernel_rfl) (fun _ _ _ h => h) (Or.inr ⟨by rfl, rfl⟩) (by assumption) ?_)
                  | (refine wpAnyH_take (i := 3) (oi := { dst := some 184, op := Op.move (Operand.tmp 10), type := 24, pos := "law.go:96", after := #[{ on := 2, ground := Ground.guard }], guard := some (2, false) }) (v := ?_) rfl (by kernel_rfl) (by kernel_rfl) (by kernel_rfl) (fun _ _ _ h => h) (Or.inl ⟨by rfl, ?_⟩) (by assumption) ?_; rotate_left; · (intro wq hSw; (try dsimp only at hSw); go_simp; try (with_reducible rfl)))
                try simp only [Act.put, List.setIfInBounds_toArray, List.set_cons_zero, List.set_cons_succ]
                first
                  | (refine wpAnyH_take (i := 5) (oi := { dst := some 186, op := Op.move (Operand.tmp 12), type := 3, pos := "law.go:96", after := #[{ on := 2, ground := Ground.guard }], guard := some (2, false) }) (v := undef) rfl (by kernel_rfl) (by kernel_rfl) (by kernel_rfl) (fun _ _ _ h => h) (Or.inr ⟨by rfl, rfl⟩) (by assumption) ?_)
                  | (refine wpAnyH_take (i := 5) (oi := { dst := some 186, op := Op.move (Operand.tmp 12), type := 3, pos := "law.go:96", after := #[{ on := 2, ground := Ground.guard }], guard := some (2, false) }) (v := ?_) rfl (by kernel_rfl) (by kernel_rfl) (by kernel_rfl) (fun _ _ _ h => h) (Or.inl ⟨by rfl, ?_⟩) (by assumption) ?_; rotate_left; · (intro wq hSw; (try dsimp only at hSw); go_simp; try (with_reducible rfl)))
                try simp only [Act.put, List.setIfInBounds_toArray, List.set_cons_zero, List.set_cons_succ]
                refine wpAnyH_ready (rs := [4]) (by kernel_rfl) (by simp) ?_
                refine AllReadyH.cons (o := { dst := some 185, op := Op.call { callee := Callee.value (Operand.func 12), args := #[Operand.tmp 184], argTypes := #[24] }, type := 3, pos := "law.go:96", after := #[{ on := 3, ground := Ground.data }, { on := 2, ground := Ground.chain }, { on := 2, ground := Ground.guard }], guard := some (2, false) }) rfl (fun K hK => ?_) ?_
                rotate_left
                · exact AllReadyH.nil
                go_simp
                go_at_call 12
                refine (hLn.out _ (by repeat (first | exact Below.refl _ _ | refine pw_below_drewN ?_ _ | refine below_drew ?_))).mono ?_
                rintro e w11 ⟨rfl, h1⟩
                replace h1 := h1.symm
                subst h1
                refine hK.out _ _ ?_ (fun hHeld => ?_)
                · exact hHeld
                clear hK K
                try simp only [Act.put, List.setIfInBounds_toArray, List.set_cons_zero, List.set_cons_succ]
                first
                  | (refine wpAnyH_take (i := 6) (oi := { dst := some 187, op := Op.binOp BinOp.neq 3 (Operand.tmp 185) (Operand.tmp 186) 3, type := 4, pos := "law.go:96", after := #[{ on := 4, ground := Ground.data }, { on := 5, ground := Ground.data }, { on := 2, ground := Ground.guard }], guard := some (2, false) }) (v := undef) rfl (by kernel_rfl) (by kernel_rfl) (by kernel_rfl) (fun _ _ _ h => h) (Or.inr ⟨by rfl, rfl⟩) (by assumption) ?_)
                  | (refine wpAnyH_take (i := 6) (oi := { dst := some 187, op := Op.binOp BinOp.neq 3 (Operand.tmp 185) (Operand.tmp 186) 3, type := 4, pos := "law.go:96", after := #[{ on := 4, ground := Ground.data }, { on := 5, ground := Ground.data }, { on := 2, ground := Ground.guard }], guard := some (2, false) }) (v := ?_) rfl (by kernel_rfl) (by kernel_rfl) (by kernel_rfl) (fun _ _ _ h => h) (Or.inl ⟨by rfl, ?_⟩) (by assumption) ?_; rotate_left; · (intro wq hSw; (try dsimp only at hSw); go_simp; try (with_reducible rfl)))
                try simp only [Act.put, List.setIfInBounds_toArray, List.set_cons_zero, List.set_cons_succ]
                first
                  | (refine wpAnyH_take (i := 7) (oi := { dst := some 188, op := Op.pick (Operand.tmp 183) (Operand.const (Value.bool true)) (Operand.tmp 187), type := 4, pos := "law.go:96", after := #[{ on := 2, ground := Ground.data }, { on := 6, ground := Ground.data }], guard := none }) (v := undef) rfl (by kernel_rfl) (by kernel_rfl) (by kernel_rfl) (fun _ _ _ h => h) (Or.inr ⟨by rfl, rfl⟩) (by assumption) ?_)
                  | (refine wpAnyH_take (i := 7) (oi := { dst := some 188, op := Op.pick (Operand.tmp 183) (Operand.const (Value.bool true)) (Operand.tmp 187), type := 4, pos := "law.go:96", after := #[{ on := 2, ground := Ground.data }, { on := 6, ground := Ground.data }], guard := none }) (v := ?_) rfl (by kernel_rfl) (by kernel_rfl) (by kernel_rfl) (fun _ _ _ h => h) (Or.inl ⟨by rfl, ?_⟩) (by assumption) ?_; rotate_left; · (intro wq hSw; (try dsimp only at hSw); go_simp; try (with_reducible rfl)))
                try simp only [Act.put, List.setIfInBounds_toArray, List.set_cons_zero, List.set_cons_succ]
                first
                  | (refine wpAnyH_take (i := 8) (oi := { dst := some 189, op := Op.move (Operand.tmp 188), type := 4, pos := "law.go:96", after := #[{ on := 7, ground := Ground.data }, { on := 4, ground := Ground.chain }], guard := none }) (v := undef) rfl (by kernel_rfl) (by kernel_rfl) (by kernel_rfl) (fun _ _ _ h => h) (Or.inr ⟨by rfl, rfl⟩) (by assumption) ?_)
                  | (refine wpAnyH_take (i := 8) (oi := { dst := some 189, op := Op.move (Operand.tmp 188), type := 4, pos := "law.go:96", after := #[{ on := 7, ground := Ground.data }, { on := 4, ground := Ground.chain }], guard := none }) (v := ?_) rfl (by kernel_rfl) (by kernel_rfl) (by kernel_rfl) (fun _ _ _ h => h) (Or.inl ⟨by rfl, ?_⟩) (by assumption) ?_; rotate_left; · (intro wq hSw; (try dsimp only at hSw); go_simp; try (with_reducible rfl)))
                try simp only [Act.put, List.setIfInBounds_toArray, List.set_cons_zero, List.set_cons_succ]
                first
                  | (refine wpAnyH_take (i := 9) (oi := { dst := some 190, op := Op.move (Operand.tmp 10), type := 24, pos := "law.go:96", after := #[{ on := 8, ground := Ground.guard }], guard := some (8, false) }) (v := undef) rfl (by kernel_rfl) (by kernel_rfl) (by kernel_rfl) (fun _ _ _ h => h) (Or.inr ⟨by rfl, rfl⟩) (by assumption) ?_)
                  | (refine wpAnyH_take (i := 9) (oi := { dst := some 190, op := Op.move (Operand.tmp 10), type := 24, pos := "law.go:96", after := #[{ on := 8, ground := Ground.guard }], guard := some (8, false) }) (v := ?_) rfl (by kernel_rfl) (by kernel_rfl) (by kernel_rfl) (fun _ _ _ h => h) (Or.inl ⟨by rfl, ?_⟩) (by assumption) ?_; rotate_left; · (intro wq hSw; (try dsimp only at hSw); go_simp; try (with_reducible rfl)))
                try simp only [Act.put, List.setIfInBounds_toArray, List.set_cons_zero, List.set_cons_succ]
                first
                  | (refine wpAnyH_take (i := 11) (oi := { dst := some 192, op := Op.fieldAddr 41 (Operand.tmp 11) 1, type := 0, pos := "law.go:96", after := #[{ on := 8, ground := Ground.guard }], guard := some (8, false) }) (v := undef) rfl (by kernel_rfl) (by kernel_rfl) (by kernel_rfl) (fun _ _ _ h => h) (Or.inr ⟨by rfl, rfl⟩) (by assumption) ?_)
                  | (refine wpAnyH_take (i := 11) (oi := { dst := some 192, op := Op.fieldAddr 41 (Operand.tmp 11) 1, type := 0, pos := "law.go:96", after := #[{ on := 8, ground := Ground.guard }], guard := some (8, false) }) (v := ?_) rfl (by kernel_rfl) (by kernel_rfl) (by kernel_rfl) (fun _ _ _ h => h) (Or.inl ⟨by rfl, ?_⟩) (by assumption) ?_; rotate_left; · (intro wq hSw; (try dsimp only at hSw); go_simp; try (with_reducible rfl)))
                try simp only [Act.put, List.setIfInBounds_toArray, List.set_cons_zero, List.set_cons_succ]
                first
                  | (refine wpAnyH_take (i := 12) (oi := { dst := some 193, op := Op.load 3 (Operand.tmp 192), type := 3, pos := "law.go:96", after := #[{ on := 11, ground := Ground.data }, { on := 8, ground := Ground.guard }], guard := some (8, false) }) (v := undef) rfl (by kernel_rfl) (by kernel_rfl) (by kernel_rfl) (fun _ _ _ h => h) (Or.inr ⟨by rfl, rfl⟩) (by assumption) ?_)
                  | (refine wpAnyH_take (i := 12) (oi := { dst := some 193, op := Op.load 3 (Operand.tmp 192), type := 3, pos := "law.go:96", after := #[{ on := 11, ground := Ground.data }, { on := 8, ground := Ground.guard }], guard := some (8, false) }) (v := ?_) rfl (by kernel_rfl) (by kernel_rfl) (by kernel_rfl) (fun _ _ _ h => h) (Or.inl ⟨by rfl, ?_⟩) (by assumption) ?_; rotate_left; · (intro wq hSw; (try dsimp only at hSw); go_simp; try (with_reducible rfl)))
                try simp only [Act.put, List.setIfInBounds_toArray, List.set_cons_zero, List.set_cons_succ]
                refine wpAnyH_ready (rs := [10]) (by kernel_rfl) (by simp) ?_
                refine AllReadyH.cons (o := { dst := some 191, op := Op.call { callee := Callee.value (Operand.func 9), args := #[Operand.tmp 190], argTypes := #[24] }, type := 3, pos := "law.go:96", after := #[{ on := 9, ground := Ground.data }, { on := 8, ground := Ground.chain }, { on := 8, ground := Ground.guard }], guard := some (8, false) }) rfl (fun K hK => ?_) ?_
                rotate_left
                · exact AllReadyH.nil
                go_simp
                go_at_call 9
                refine (hHn.out _ (by repeat (first | exact Below.refl _ _ | refine pw_below_drewN ?_ _ | refine below_drew ?_))).mono ?_
                rintro e w11 ⟨rfl, h1⟩
                replace h1 := h1.symm
                subst h1
                refine hK.out _ _ ?_ (fun hHeld => ?_)
                · exact hHeld
                clear hK K
                try simp only [Act.put, List.setIfInBounds_toArray, List.set_cons_zero, List.set_cons_succ]
                first
                  | (refine wpAnyH_take (i := 13) (oi := { dst := some 194, op := Op.binOp BinOp.neq 3 (Operand.tmp 191) (Operand.tmp 193) 3, type := 4, pos := "law.go:96", after := #[{ on := 10, ground := Ground.data }, { on := 12, ground := Ground.data }, { on := 8, ground := Ground.guard }], guard := some (8, false) }) (v := undef) rfl (by kernel_rfl) (by kernel_rfl) (by kernel_rfl) (fun _ _ _ h => h) (Or.inr ⟨by rfl, rfl⟩) (by assumption) ?_)
                  | (refine wpAnyH_take (i := 13) (oi := { dst := some 194, op := Op.binOp BinOp.neq 3 (Operand.tmp 191) (Operand.tmp 193) 3, type := 4, pos := "law.go:96", after := #[{ on := 10, ground := Ground.data }, { on := 12, ground := Ground.data }, { on := 8, ground := Ground.guard }], guard := some (8, false) }) (v := ?_) rfl (by kernel_rfl) (by kernel_rfl) (by kernel_rfl) (fun _ _ _ h => h) (Or.inl ⟨by rfl, ?_⟩) (by assumption) ?_; rotate_left; · (intro wq hSw; (try dsimp only at hSw); go_simp; try (with_reducible rfl)))
                try simp only [Act.put, List.setIfInBounds_toArray, List.set_cons_zero, List.set_cons_succ]
                first
                  | (refine wpAnyH_take (i := 14) (oi := { dst := some 195, op := Op.pick (Operand.tmp 189) (Operand.const (Value.bool true)) (Operand.tmp 194), type := 4, pos := "law.go:96", after := #[{ on := 8, ground := Ground.data }, { on := 13, ground := Ground.data }], guard := none }) (v := undef) rfl (by kernel_rfl) (by kernel_rfl) (by kernel_rfl) (fun _ _ _ h => h) (Or.inr ⟨by rfl, rfl⟩) (by assumption) ?_)
                  | (refine wpAnyH_take (i := 14) (oi := { dst := some 195, op := Op.pick (Operand.tmp 189) (Operand.const (Value.bool true)) (Operand.tmp 194), type := 4, pos := "law.go:96", after := #[{ on := 8, ground := Ground.data }, { on := 13, ground := Ground.data }], guard := none }) (v := ?_) rfl (by kernel_rfl) (by kernel_rfl) (by kernel_rfl) (fun _ _ _ h => h) (Or.inl ⟨by rfl, ?_⟩) (by assumption) ?_; rotate_left; · (intro wq hSw; (try dsimp only at hSw); go_simp; try (with_reducible rfl)))
                try simp only [Act.put, List.setIfInBounds_toArray, List.set_cons_zero, List.set_cons_succ]
                first
                  | (refine wpAnyH_take (i := 15) (oi := { dst := some 196, op := Op.move (Operand.tmp 195), type := 4, pos := "law.go:96", after := #[{ on := 14, ground := Ground.data }, { on := 10, ground := Ground.chain }], guard := none }) (v := undef) rfl (by kernel_rfl) (by kernel_rfl) (by kernel_rfl) (fun _ _ _ h => h) (Or.inr ⟨by rfl, rfl⟩) (by assumption) ?_)
                  | (refine wpAnyH_take (i := 15) (oi := { dst := some 196, op := Op.move (Operand.tmp 195), type := 4, pos := "law.go:96", after := #[{ on := 14, ground := Ground.data }, { on := 10, ground := Ground.chain }], guard := none }) (v := ?_) rfl (by kernel_rfl) (by kernel_rfl) (by kernel_rfl) (fun _ _ _ h => h) (Or.inl ⟨by rfl, ?_⟩) (by assumption) ?_; rotate_left; · (intro wq hSw; (try dsimp only at hSw); go_simp; try (with_reducible rfl)))
                try simp only [Act.put, List.setIfInBounds_toArray, List.set_cons_zero, List.set_cons_succ]
                first
                  | (refine wpAnyH_take (i := 16) (oi := { dst := some 197, op := Op.move (Operand.tmp 21), type := 4, pos := "law.go:96", after := #[{ on := 15, ground := Ground.guard }], guard := some (15, false) }) (v := undef) rfl (by kernel_rfl) (by kernel_rfl) (by kernel_rfl) (fun _ _ _ h => h) (Or.inr ⟨by rfl, rfl⟩) (by assumption) ?_)
                  | (refine wpAnyH_take (i := 16) (oi := { dst := some 197, op := Op.move (Operand.tmp 21), type := 4, pos := "law.go:96", after := #[{ on := 15, ground := Ground.guard }], guard := some (15, false) }) (v := ?_) rfl (by kernel_rfl) (by kernel_rfl) (by kernel_rfl) (fun _ _ _ h => h) (Or.inl ⟨by rfl, ?_⟩) (by assumption) ?_; rotate_left; · (intro wq hSw; (try dsimp only at hSw); go_simp; try (with_reducible rfl)))
                try simp only [Act.put, List.setIfInBounds_toArray, List.set_cons_zero, List.set_cons_succ]
                first
                  | (refine wpAnyH_take (i := 17) (oi := { dst := some 198, op := Op.move (Operand.tmp 24), type := 4, pos := "law.go:96", after := #[{ on := 15, ground := Ground.guard }], guard := some (15, false) }) (v := undef) rfl (by kernel_rfl) (by kernel_rfl) (by kernel_rfl) (fun _ _ _ h => h) (Or.inr ⟨by rfl, rfl⟩) (by assumption) ?_)
                  | (refine wpAnyH_take (i := 17) (oi := { dst := some 198, op := Op.move (Operand.tmp 24), type := 4, pos := "law.go:96", after := #[{ on := 15, ground := Ground.guard }], guard := some (15, false) }) (v := ?_) rfl (by kernel_rfl) (by kernel_rfl) (by kernel_rfl) (fun _ _ _ h => h) (Or.inl ⟨by rfl, ?_⟩) (by assumption) ?_; rotate_left; · (intro wq hSw; (try dsimp only at hSw); go_simp; try (with_reducible rfl)))
                try simp only [Act.put, List.setIfInBounds_toArray, List.set_cons_zero, List.set_cons_succ]
                first
                  | (refine wpAnyH_take (i := 18) (oi := { dst := some 199, op := Op.binOp BinOp.neq 4 (Operand.tmp 197) (Operand.tmp 198) 4, type := 4, pos := "law.go:96", after := #[{ on := 16, ground := Ground.data }, { on := 17, ground := Ground.data }, { on := 15, ground := Ground.guard }], guard := some (15, false) }) (v := undef) rfl (by kernel_rfl) (by kernel_rfl) (by kernel_rfl) (fun _ _ _ h => h) (Or.inr ⟨by rfl, rfl⟩) (by assumption) ?_)
                  | (refine wpAnyH_take (i := 18) (oi := { dst := some 199, op := Op.binOp BinOp.neq 4 (Operand.tmp 197) (Operand.tmp 198) 4, type := 4, pos := "law.go:96", after := #[{ on := 16, ground := Ground.data }, { on := 17, ground := Ground.data }, { on := 15, ground := Ground.guard }], guard := some (15, false) }) (v := ?_) rfl (by kernel_rfl) (by kernel_rfl) (by kernel_rfl) (fun _ _ _ h => h) (Or.inl ⟨by rfl, ?_⟩) (by assumption) ?_; rotate_left; · (intro wq hSw; (try dsimp only at hSw); go_simp; try (with_reducible rfl)))
                try simp only [Act.put, List.setIfInBounds_toArray, List.set_cons_zero, List.set_cons_succ]
                first
                  | (refine wpAnyH_take (i := 19) (oi := { dst := some 200, op := Op.pick (Operand.tmp 196) (Operand.const (Value.bool true)) (Operand.tmp 199), type := 4, pos := "law.go:96", after := #[{ on := 15, ground := Ground.data }, { on := 18, ground := Ground.data }], guard := none }) (v := undef) rfl (by kernel_rfl) (by kernel_rfl) (by kernel_rfl) (fun _ _ _ h => h) (Or.inr ⟨by rfl, rfl⟩) (by assumption) ?_)
                  | (refine wpAnyH_take (i := 19) (oi := { dst := some 200, op := Op.pick (Operand.tmp 196) (Operand.const (Value.bool true)) (Operand.tmp 199), type := 4, pos := "law.go:96", after := #[{ on := 15, ground := Ground.data }, { on := 18, ground := Ground.data }], guard := none }) (v := ?_) rfl (by kernel_rfl) (by kernel_rfl) (by kernel_rfl) (fun _ _ _ h => h) (Or.inl ⟨by rfl, ?_⟩) (by assumption) ?_; rotate_left; · (intro wq hSw; (try dsimp only at hSw); go_simp; try (with_reducible rfl)))
                try simp only [Act.put, List.setIfInBounds_toArray, List.set_cons_zero, List.set_cons_succ]
                first
                  | (refine wpAnyH_take (i := 20) (oi := { dst := some 201, op := Op.move (Operand.tmp 200), type := 4, pos := "law.go:96", after := #[{ on := 19, ground := Ground.data }, { on := 15, ground := Ground.chain }], guard := none }) (v := undef) rfl (by kernel_rfl) (by kernel_rfl) (by kernel_rfl) (fun _ _ _ h => h) (Or.inr ⟨by rfl, rfl⟩) (by assumption) ?_)
                  | (refine wpAnyH_take (i := 20) (oi := { dst := some 201, op := Op.move (Operand.tmp 200), type := 4, pos := "law.go:96", after := #[{ on := 19, ground := Ground.data }, { on := 15, ground := Ground.chain }], guard := none }) (v := ?_) rfl (by kernel_rfl) (by kernel_rfl) (by kernel_rfl) (fun _ _ _ h => h) (Or.inl ⟨by rfl, ?_⟩) (by assumption) ?_; rotate_left; · (intro wq hSw; (try dsimp only at hSw); go_simp; try (with_reducible rfl)))
                try simp only [Act.put, List.setIfInBounds_toArray, List.set_cons_zero, List.set_cons_succ]
                first
                  | (refine wpAnyH_take (i := 21) (oi := { dst := some 202, op := Op.move (Operand.tmp 24), type := 4, pos := "law.go:96", after := #[{ on := 20, ground := Ground.guard }], guard := some (20, false) }) (v := undef) rfl (by kernel_rfl) (by kernel_rfl) (by kernel_rfl) (fun _ _ _ h => h) (Or.inr ⟨by rfl, rfl⟩) (by assumption) ?_)
                  | (refine wpAnyH_take (i := 21) (oi := { dst := some 202, op := Op.move (Operand.tmp 24), type := 4, pos := "law.go:96", after := #[{ on := 20, ground := Ground.guard }], guard := some (20, false) }) (v := ?_) rfl (by kernel_rfl) (by kernel_rfl) (by kernel_rfl) (fun _ _ _ h => h) (Or.inl ⟨by rfl, ?_⟩) (by assumption) ?_; rotate_left; · (intro wq hSw; (try dsimp only at hSw); go_simp; try (with_reducible rfl)))
                try simp only [Act.put, List.setIfInBounds_toArray, List.set_cons_zero, List.set_cons_succ]
                first
                  | (refine wpAnyH_take (i := 22) (oi := { dst := some 203, op := Op.move (Operand.tmp 202), type := 4, pos := "law.go:96", after := #[{ on := 21, ground := Ground.data }, { on := 20, ground := Ground.chain }, { on := 20, ground := Ground.guard }], guard := some (20, false) }) (v := undef) rfl (by kernel_rfl) (by kernel_rfl) (by kernel_rfl) (fun _ _ _ h => h) (Or.inr ⟨by rfl, rfl⟩) (by assumption) ?_)
                  | (refine wpAnyH_take (i := 22) (oi := { dst := some 203, op := Op.move (Operand.tmp 202), type := 4, pos := "law.go:96", after := #[{ on := 21, ground := Ground.data }, { on := 20, ground := Ground.chain }, { on := 20, ground := Ground.guard }], guard := some (20, false) }) (v := ?_) rfl (by kernel_rfl) (by kernel_rfl) (by kernel_rfl) (fun _ _ _ h => h) (Or.inl ⟨by rfl, ?_⟩) (by assumption) ?_; rotate_left; · (intro wq hSw; (try dsimp only at hSw); go_simp; try (with_reducible rfl)))
                try simp only [Act.put, List.setIfInBounds_toArray, List.set_cons_zero, List.set_cons_succ]
                first
                  | (refine wpAnyH_take (i := 23) (oi := { dst := some 204, op := Op.move (Operand.tmp 20), type := 3, pos := "law.go:96", after := #[{ on := 22, ground := Ground.guard }], guard := some (22, true) }) (v := undef) rfl (by kernel_rfl) (by kernel_rfl) (by kernel_rfl) (fun _ _ _ h => h) (Or.inr ⟨by rfl, rfl⟩) (by assumption) ?_)
                  | (refine wpAnyH_take (i := 23) (oi := { dst := some 204, op := Op.move (Operand.tmp 20), type := 3, pos := "law.go:96", after := #[{ on := 22, ground := Ground.guard }], guard := some (22, true) }) (v := ?_) rfl (by kernel_rfl) (by kernel_rfl) (by kernel_rfl) (fun _ _ _ h => h) (Or.inl ⟨by rfl, ?_⟩) (by assumption) ?_; rotate_left; · (intro wq hSw; (try dsimp only at hSw); go_simp; try (with_reducible rfl)))
                try simp only [Act.put, List.setIfInBounds_toArray, List.set_cons_zero, List.set_cons_succ]
                first
                  | (refine wpAnyH_take (i := 24) (oi := { dst := some 205, op := Op.fieldAddr 44 (Operand.tmp 14) 1, type := 0, pos := "law.go:96", after := #[{ on := 22, ground := Ground.guard }], guard := some (22, true) }) (v := undef) rfl (by kernel_rfl) (by kernel_rfl) (by kernel_rfl) (fun _ _ _ h => h) (Or.inr ⟨by rfl, rfl⟩) (by assumption) ?_)
                  | (refine wpAnyH_take (i := 24) (oi := { dst := some 205, op := Op.fieldAddr 44 (Operand.tmp 14) 1, type := 0, pos := "law.go:96", after := #[{ on := 22, ground := Ground.guard }], guard := some (22, true) }) (v := ?_) rfl (by kernel_rfl) (by kernel_rfl) (by kernel_rfl) (fun _ _ _ h => h) (Or.inl ⟨by rfl, ?_⟩) (by assumption) ?_; rotate_left; · (intro wq hSw; (try dsimp only at hSw); go_simp; try (with_reducible rfl)))
                try simp only [Act.put, List.setIfInBounds_toArray, List.set_cons_zero, List.set_cons_succ]
                first
                  | (refine wpAnyH_take (i := 25) (oi := { dst := some 206, op := Op.load 3 (Operand.tmp 205), type := 3, pos := "law.go:96", after := #[{ on := 24, ground := Ground.data }, { on := 22, ground := Ground.guard }], guard := some (22, true) }) (v := undef) rfl (by kernel_rfl) (by kernel_rfl) (by kernel_rfl) (fun _ _ _ h => h) (Or.inr ⟨by rfl, rfl⟩) (by assumption) ?_)
                  | (refine wpAnyH_take (i := 25) (oi := { dst := some 206, op := Op.load 3 (Operand.tmp 205), type := 3, pos := "law.go:96", after := #[{ on := 24, ground := Ground.data }, { on := 22, ground := Ground.guard }], guard := some (22, true) }) (v := ?_) rfl (by kernel_rfl) (by kernel_rfl) (by kernel_rfl) (fun _ _ _ h => h) (Or.inl ⟨by rfl, ?_⟩) (by assumption) ?_; rotate_left; · (intro wq hSw; (try dsimp only at hSw); go_simp; try (with_reducible rfl)))
                try simp only [Act.put, List.setIfInBounds_toArray, List.set_cons_zero, List.set_cons_succ]
                first
                  | (refine wpAnyH_take (i := 26) (oi := { dst := some 207, op := Op.fieldAddr 41 (Operand.tmp 11) 0, type := 0, pos := "law.go:96", after := #[{ on := 22, ground := Ground.guard }], guard := some (22, true) }) (v := undef) rfl (by kernel_rfl) (by kernel_rfl) (by kernel_rfl) (fun _ _ _ h => h) (Or.inr ⟨by rfl, rfl⟩) (by assumption) ?_)
                  | (refine wpAnyH_take (i := 26) (oi := { dst := some 207, op := Op.fieldAddr 41 (Operand.tmp 11) 0, type := 0, pos := "law.go:96", after := #[{ on := 22, ground := Ground.guard }], guard := some (22, true) }) (v := ?_) rfl (by kernel_rfl) (by kernel_rfl) (by kernel_rfl) (fun _ _ _ h => h) (Or.inl ⟨by rfl, ?_⟩) (by assumption) ?_; rotate_left; · (intro wq hSw; (try dsimp only at hSw); go_simp; try (with_reducible rfl)))
                try simp only [Act.put, List.setIfInBounds_toArray, List.set_cons_zero, List.set_cons_succ]
                first
                  | (refine wpAnyH_take (i := 27) (oi := { dst := some 208, op := Op.indexAddr 39 (Operand.tmp 207) (Operand.tmp 206), type := 0, pos := "law.go:96", after := #[{ on := 26, ground := Ground.data }, { on := 25, ground := Ground.data }, { on := 22, ground := Ground.guard }], guard := some (22, true) }) (v := undef) rfl (by kernel_rfl) (by kernel_rfl) (by kernel_rfl) (fun _ _ _ h => h) (Or.inr ⟨by rfl, rfl⟩) (by assumption) ?_)
                  | (refine wpAnyH_take (i := 27) (oi := { dst := some 208, op := Op.indexAddr 39 (Operand.tmp 207) (Operand.tmp 206), type := 0, pos := "law.go:96", after := #[{ on := 26, ground := Ground.data }, { on := 25, ground := Ground.data }, { on := 22, ground := Ground.guard }], guard := some (22, true) }) (v := ?_) rfl (by kernel_rfl) (by kernel_rfl) (by kernel_rfl) (fun _ _ _ h => h) (Or.inl ⟨by rfl, ?_⟩) (by assumption) ?_; rotate_left; · (intro wq hSw; (try dsimp only at hSw); go_simp; try (with_reducible rfl)))
                try simp only [Act.put, List.setIfInBounds_toArray, List.set_cons_zero, List.set_cons_succ]
                first
                  | (refine wpAnyH_take (i := 28) (oi := { dst := some 209, op := Op.load 3 (Operand.tmp 208), type := 3, pos := "law.go:96", after := #[{ on := 27, ground := Ground.data }, { on := 22, ground := Ground.guard }], guard := some (22, true) }) (v := undef) rfl (by kernel_rfl) (by kernel_rfl) (by kernel_rfl) (fun _ _ _ h => h) (Or.inr ⟨by rfl, rfl⟩) (by assumption) ?_)
                  | (refine wpAnyH_take (i := 28) (oi := { dst := some 209, op := Op.load 3 (Operand.tmp 208), type := 3, pos := "law.go:96", after := #[{ on := 27, ground := Ground.data }, { on := 22, ground := Ground.guard }], guard := some (22, true) }) (v := ?_) rfl (by kernel_rfl) (by kernel_rfl) (by kernel_rfl) (fun _ _ _ h => h) (Or.inl ⟨by rfl, ?_⟩) (by assumption) ?_; rotate_left; · (intro wq hSw; (try dsimp only at hSw); go_simp; try (with_reducible rfl)))
                try simp only [Act.put, List.setIfInBounds_toArray, List.set_cons_zero, List.set_cons_succ]
                first
                  | (refine wpAnyH_take (i := 29) (oi := { dst := some 210, op := Op.binOp BinOp.neq 3 (Operand.tmp 204) (Operand.tmp 209) 3, type := 4, pos := "law.go:96", after := #[{ on := 23, ground := Ground.data }, { on := 28, ground := Ground.data }, { on := 22, ground := Ground.guard }], guard := some (22, true) }) (v := undef) rfl (by kernel_rfl) (by kernel_rfl) (by kernel_rfl) (fun _ _ _ h => h) (Or.inr ⟨by rfl, rfl⟩) (by assumption) ?_)
                  | (refine wpAnyH_take (i := 29) (oi := { dst := some 210, op := Op.binOp BinOp.neq 3 (Operand.tmp 204) (Operand.tmp 209) 3, type := 4, pos := "law.go:96", after := #[{ on := 23, ground := Ground.data }, { on := 28, ground := Ground.data }, { on := 22, ground := Ground.guard }], guard := some (22, true) }) (v := ?_) rfl (by kernel_rfl) (by kernel_rfl) (by kernel_rfl) (fun _ _ _ h => h) (Or.inl ⟨by rfl, ?_⟩) (by assumption) ?_; rotate_left; · (intro wq hSw; (try dsimp only at hSw); go_simp; try (with_reducible rfl)))
                try simp only [Act.put, List.setIfInBounds_toArray, List.set_cons_zero, List.set_cons_succ]
                first
                  | (refine wpAnyH_take (i := 30) (oi := { dst := some 211, op := Op.pick (Operand.tmp 203) (Operand.tmp 210) (Operand.const (Value.bool false)), type := 4, pos := "law.go:96", after := #[{ on := 22, ground := Ground.data }, { on := 29, ground := Ground.data }, { on := 20, ground := Ground.guard }], guard := some (20, false) }) (v := undef) rfl (by kernel_rfl) (by kernel_rfl) (by kernel_rfl) (fun _ _ _ h => h) (Or.inr ⟨by rfl, rfl⟩) (by assumption) ?_)
                  | (refine wpAnyH_take (i := 30) (oi := { dst := some 211, op := Op.pick (Operand.tmp 203) (Operand.tmp 210) (Operand.const (Value.bool false)), type := 4, pos := "law.go:96", after := #[{ on := 22, ground := Ground.data }, { on := 29, ground := Ground.data }, { on := 20, ground := Ground.guard }], guard := some (20, false) }) (v := ?_) rfl (by kernel_rfl) (by kernel_rfl) (by kernel_rfl) (fun _ _ _ h => h) (Or.inl ⟨by rfl, ?_⟩) (by assumption) ?_; rotate_left; · (intro wq hSw; (try dsimp only at hSw); go_simp; try (with_reducible rfl)))
                try simp only [Act.put, List.setIfInBounds_toArray, List.set_cons_zero, List.set_cons_succ]
                first
                  | (refine wpAnyH_take (i := 31) (oi := { dst := some 212, op := Op.pick (Operand.tmp 201) (Operand.const (Value.bool true)) (Operand.tmp 211), type := 4, pos := "law.go:96", after := #[{ on := 20, ground := Ground.data }, { on := 30, ground := Ground.data }], guard := none }) (v := undef) rfl (by kernel_rfl) (by kernel_rfl) (by kernel_rfl) (fun _ _ _ h => h) (Or.inr ⟨by rfl, rfl⟩) (by assumption) ?_)
                  | (refine wpAnyH_take (i := 31) (oi := { dst := some 212, op := Op.pick (Operand.tmp 201) (Operand.const (Value.bool true)) (Operand.tmp 211), type := 4, pos := "law.go:96", after := #[{ on := 20, ground := Ground.data }, { on := 30, ground := Ground.data }], guard := none }) (v := ?_) rfl (by kernel_rfl) (by kernel_rfl) (by kernel_rfl) (fun _ _ _ h => h) (Or.inl ⟨by rfl, ?_⟩) (by assumption) ?_; rotate_left; · (intro wq hSw; (try dsimp only at hSw); go_simp; try (with_reducible rfl)))
                try simp only [Act.put, List.setIfInBounds_toArray, List.set_cons_zero, List.set_cons_succ]
                first
                  | (refine wpAnyH_take (i := 32) (oi := { dst := some 213, op := Op.move (Operand.tmp 212), type := 4, pos := "law.go:96", after := #[{ on := 31, ground := Ground.data }, { on := 22, ground := Ground.chain }], guard := none }) (v := undef) rfl (by kernel_rfl) (by kernel_rfl) (by kernel_rfl) (fun _ _ _ h => h) (Or.inr ⟨by rfl, rfl⟩) (by assumption) ?_)
                  | (refine wpAnyH_take (i := 32) (oi := { dst := some 213, op := Op.move (Operand.tmp 212), type := 4, pos := "law.go:96", after := #[{ on := 31, ground := Ground.data }, { on := 22, ground := Ground.chain }], guard := none }) (v := ?_) rfl (by kernel_rfl) (by kernel_rfl) (by kernel_rfl) (fun _ _ _ h => h) (Or.inl ⟨by rfl, ?_⟩) (by assumption) ?_; rotate_left; · (intro wq hSw; (try dsimp only at hSw); go_simp; try (with_reducible rfl)))
                try simp only [Act.put, List.setIfInBounds_toArray, List.set_cons_zero, List.set_cons_succ]
                first
                  | (refine wpAnyH_take (i := 33) (oi := { dst := some 214, op := Op.move (Operand.tmp 23), type := 4, pos := "law.go:96", after := #[{ on := 32, ground := Ground.guard }], guard := some (32, false) }) (v := undef) rfl (by kernel_rfl) (by kernel_rfl) (by kernel_rfl) (fun _ _ _ h => h) (Or.inr ⟨by rfl, rfl⟩) (by assumption) ?_)
                  | (refine wpAnyH_take (i := 33) (oi := { dst := some 214, op := Op.move (Operand.tmp 23), type := 4, pos := "law.go:96", after := #[{ on := 32, ground := Ground.guard }], guard := some (32, false) }) (v := ?_) rfl (by kernel_rfl) (by kernel_rfl) (by kernel_rfl) (fun _ _ _ h => h) (Or.inl ⟨by rfl, ?_⟩) (by assumption) ?_; rotate_left; · (intro wq hSw; (try dsimp only at hSw); go_simp; try (with_reducible rfl)))
                try simp only [Act.put, List.setIfInBounds_toArray, List.set_cons_zero, List.set_cons_succ]
                first
                  | (refine wpAnyH_take (i := 34) (oi := { dst := some 215, op := Op.move (Operand.tmp 25), type := 3, pos := "law.go:96", after := #[{ on := 32, ground := Ground.guard }], guard := some (32, false) }) (v := undef) rfl (by kernel_rfl) (by kernel_rfl) (by kernel_rfl) (fun _ _ _ h => h) (Or.inr ⟨by rfl, rfl⟩) (by assumption) ?_)
                  | (refine wpAnyH_take (i := 34) (oi := { dst := some 215, op := Op.move (Operand.tmp 25), type := 3, pos := "law.go:96", after := #[{ on := 32, ground := Ground.guard }], guard := some (32, false) }) (v := ?_) rfl (by kernel_rfl) (by kernel_rfl) (by kernel_rfl) (fun _ _ _ h => h) (Or.inl ⟨by rfl, ?_⟩) (by assumption) ?_; rotate_left; · (intro wq hSw; (try dsimp only at hSw); go_simp; try (with_reducible rfl)))
                try simp only [Act.put, List.setIfInBounds_toArray, List.set_cons_zero, List.set_cons_succ]
                first
                  | (refine wpAnyH_take (i := 35) (oi := { dst := some 216, op := Op.binOp BinOp.geq 3 (Operand.tmp 215) (Operand.const (Value.int IntKind.i64 0)) 3, type := 4, pos := "law.go:96", after := #[{ on := 34, ground := Ground.data }, { on := 32, ground := Ground.guard }], guard := some (32, false) }) (v := undef) rfl (by kernel_rfl) (by kernel_rfl) (by kernel_rfl) (fun _ _ _ h => h) (Or.inr ⟨by rfl, rfl⟩) (by assumption) ?_)
                  | (refine wpAnyH_take (i := 35) (oi := { dst := some 216, op := Op.binOp BinOp.geq 3 (Operand.tmp 215) (Operand.const (Value.int IntKind.i64 0)) 3, type := 4, pos := "law.go:96", after := #[{ on := 34, ground := Ground.data }, { on := 32, ground := Ground.guard }], guard := some (32, false) }) (v := ?_) rfl (by kernel_rfl) (by kernel_rfl) (by kernel_rfl) (fun _ _ _ h => h) (Or.inl ⟨by rfl, ?_⟩) (by assumption) ?_; rotate_left; · (intro wq hSw; (try dsimp only at hSw); go_simp; try (with_reducible rfl)))
                try simp only [Act.put, List.setIfInBounds_toArray, List.set_cons_zero, List.set_cons_succ]
                first
                  | (refine wpAnyH_take (i := 36) (oi := { dst := some 217, op := Op.binOp BinOp.neq 4 (Operand.tmp 214) (Operand.tmp 216) 4, type := 4, pos := "law.go:96", after := #[{ on := 33, ground := Ground.data }, { on := 35, ground := Ground.data }, { on := 32, ground := Ground.guard }], guard := some (32, false) }) (v := undef) rfl (by kernel_rfl) (by kernel_rfl) (by kernel_rfl) (fun _ _ _ h => h) (Or.inr ⟨by rfl, rfl⟩) (by assumption) ?_)
                  | (refine wpAnyH_take (i := 36) (oi := { dst := some 217, op := Op.binOp BinOp.neq 4 (Operand.tmp 214) (Operand.tmp 216) 4, type := 4, pos := "law.go:96", after := #[{ on := 33, ground := Ground.data }, { on := 35, ground := Ground.data }, { on := 32, ground := Ground.guard }], guard := some (32, false) }) (v := ?_) rfl (by kernel_rfl) (by kernel_rfl) (by kernel_rfl) (fun _ _ _ h => h) (Or.inl ⟨by rfl, ?_⟩) (by assumption) ?_; rotate_left; · (intro wq hSw; (try dsimp only at hSw); go_simp; try (with_reducible rfl)))
                try simp only [Act.put, List.setIfInBounds_toArray, List.set_cons_zero, List.set_cons_succ]
                first
                  | (refine wpAnyH_take (i := 37) (oi := { dst := some 218, op := Op.pick (Operand.tmp 213) (Operand.const (Value.bool true)) (Operand.tmp 217), type := 4, pos := "law.go:96", after := #[{ on := 32, ground := Ground.data }, { on := 36, ground := Ground.data }], guard := none }) (v := undef) rfl (by kernel_rfl) (by kernel_rfl) (by kernel_rfl) (fun _ _ _ h => h) (Or.inr ⟨by rfl, rfl⟩) (by assumption) ?_)
                  | (refine wpAnyH_take (i := 37) (oi := { dst := some 218, op := Op.pick (Operand.tmp 213) (Operand.const (Value.bool true)) (Operand.tmp 217), type := 4, pos := "law.go:96", after := #[{ on := 32, ground := Ground.data }, { on := 36, ground := Ground.data }], guard := none }) (v := ?_) rfl (by kernel_rfl) (by kernel_rfl) (by kernel_rfl) (fun _ _ _ h => h) (Or.inl ⟨by rfl, ?_⟩) (by assumption) ?_; rotate_left; · (intro wq hSw; (try dsimp only at hSw); go_simp; try (with_reducible rfl)))
                try simp only [Act.put, List.setIfInBounds_toArray, List.set_cons_zero, List.set_cons_succ]
                first
                  | (refine wpAnyH_take (i := 38) (oi := { dst := some 219, op := Op.move (Operand.tmp 218), type := 4, pos := "law.go:96", after := #[{ on := 37, ground := Ground.data }, { on := 32, ground := Ground.chain }], guard := none }) (v := undef) rfl (by kernel_rfl) (by kernel_rfl) (by kernel_rfl) (fun _ _ _ h => h) (Or.inr ⟨by rfl, rfl⟩) (by assumption) ?_)
                  | (refine wpAnyH_take (i := 38) (oi := { dst := some 219, op := Op.move (Operand.tmp 218), type := 4, pos := "law.go:96", after := #[{ on := 37, ground := Ground.data }, { on := 32, ground := Ground.chain }], guard := none }) (v := ?_) rfl (by kernel_rfl) (by kernel_rfl) (by kernel_rfl) (fun _ _ _ h => h) (Or.inl ⟨by rfl, ?_⟩) (by assumption) ?_; rotate_left; · (intro wq hSw; (try dsimp only at hSw); go_simp; try (with_reducible rfl)))
                try simp only [Act.put, List.setIfInBounds_toArray, List.set_cons_zero, List.set_cons_succ]
                first
                  | (refine wpAnyH_take (i := 39) (oi := { dst := some 220, op := Op.move (Operand.tmp 22), type := 3, pos := "law.go:96", after := #[{ on := 38, ground := Ground.guard }], guard := some (38, false) }) (v := undef) rfl (by kernel_rfl) (by kernel_rfl) (by kernel_rfl) (fun _ _ _ h => h) (Or.inr ⟨by rfl, rfl⟩) (by assumption) ?_)
                  | (refine wpAnyH_take (i := 39) (oi := { dst := some 220, op := Op.move (Operand.tmp 22), type := 3, pos := "law.go:96", after := #[{ on := 38, ground := Ground.guard }], guard := some (38, false) }) (v := ?_) rfl (by kernel_rfl) (by kernel_rfl) (by kernel_rfl) (fun _ _ _ h => h) (Or.inl ⟨by rfl, ?_⟩) (by assumption) ?_; rotate_left; · (intro wq hSw; (try dsimp only at hSw); go_simp; try (with_reducible rfl)))
                try simp only [Act.put, List.setIfInBounds_toArray, List.set_cons_zero, List.set_cons_succ]
                first
                  | (refine wpAnyH_take (i := 40) (oi := { dst := some 221, op := Op.move (Operand.tmp 25), type := 3, pos := "law.go:96", after := #[{ on := 38, ground := Ground.guard }], guard := some (38, false) }) (v := undef) rfl (by kernel_rfl) (by kernel_rfl) (by kernel_rfl) (fun _ _ _ h => h) (Or.inr ⟨by rfl, rfl⟩) (by assumption) ?_)
                  | (refine wpAnyH_take (i := 40) (oi := { dst := some 221, op := Op.move (Operand.tmp 25), type := 3, pos := "law.go:96", after := #[{ on := 38, ground := Ground.guard }], guard := some (38, false) }) (v := ?_) rfl (by kernel_rfl) (by kernel_rfl) (by kernel_rfl) (fun _ _ _ h => h) (Or.inl ⟨by rfl, ?_⟩) (by assumption) ?_; rotate_left; · (intro wq hSw; (try dsimp only at hSw); go_simp; try (with_reducible rfl)))
                try simp only [Act.put, List.setIfInBounds_toArray, List.set_cons_zero, List.set_cons_succ]
                first
                  | (refine wpAnyH_take (i := 41) (oi := { dst := some 222, op := Op.call { callee := Callee.builtin Builtin.max, args := #[Operand.const (Value.int IntKind.i64 0), Operand.tmp 221], argTypes := #[3, 3] }, type := 3, pos := "law.go:96", after := #[{ on := 40, ground := Ground.data }, { on := 38, ground := Ground.guard }], guard := some (38, false) }) (v := undef) rfl (by kernel_rfl) (by kernel_rfl) (by kernel_rfl) (fun _ _ _ h => h) (Or.inr ⟨by rfl, rfl⟩) (by assumption) ?_)
                  | (refine wpAnyH_take (i := 41) (oi := { dst := some 222, op := Op.call { callee := Callee.builtin Builtin.max, args := #[Operand.const (Value.int IntKind.i64 0), Operand.tmp 221], argTypes := #[3, 3] }, type := 3, pos := "law.go:96", after := #[{ on := 40, ground := Ground.data }, { on := 38, ground := Ground.guard }], guard := some (38, false) }) (v := ?_) rfl (by kernel_rfl) (by kernel_rfl) (by kernel_rfl) (fun _ _ _ h => h) (Or.inl ⟨by rfl, ?_⟩) (by assumption) ?_; rotate_left; · (intro wq hSw; (try dsimp only at hSw); go_simp; try (with_reducible rfl)))
                try simp only [Act.put, List.setIfInBounds_toArray, List.set_cons_zero, List.set_cons_succ]
                first
                  | (refine wpAnyH_take (i := 42) (oi := { dst := some 223, op := Op.binOp BinOp.neq 3 (Operand.tmp 220) (Operand.tmp 222) 3, type := 4, pos := "law.go:96", after := #[{ on := 39, ground := Ground.data }, { on := 41, ground := Ground.data }, { on := 38, ground := Ground.guard }], guard := some (38, false) }) (v := undef) rfl (by kernel_rfl) (by kernel_rfl) (by kernel_rfl) (fun _ _ _ h => h) (Or.inr ⟨by rfl, rfl⟩) (by assumption) ?_)
                  | (refine wpAnyH_take (i := 42) (oi := { dst := some 223, op := Op.binOp BinOp.neq 3 (Operand.tmp 220) (Operand.tmp 222) 3, type := 4, pos := "law.go:96", after := #[{ on := 39, ground := Ground.data }, { on := 41, ground := Ground.data }, { on := 38, ground := Ground.guard }], guard := some (38, false) }) (v := ?_) rfl (by kernel_rfl) (by kernel_rfl) (by kernel_rfl) (fun _ _ _ h => h) (Or.inl ⟨by rfl, ?_⟩) (by assumption) ?_; rotate_left; · (intro wq hSw; (try dsimp only at hSw); go_simp; try (with_reducible rfl)))
                try simp only [Act.put, List.setIfInBounds_toArray, List.set_cons_zero, List.set_cons_succ]
                first
                  | (refine wpAnyH_take (i := 43) (oi := { dst := some 224, op := Op.pick (Operand.tmp 219) (Operand.const (Value.bool true)) (Operand.tmp 223), type := 4, pos := "law.go:96", after := #[{ on := 38, ground := Ground.data }, { on := 42, ground := Ground.data }], guard := none }) (v := undef) rfl (by kernel_rfl) (by kernel_rfl) (by kernel_rfl) (fun _ _ _ h => h) (Or.inr ⟨by rfl, rfl⟩) (by assumption) ?_)
                  | (refine wpAnyH_take (i := 43) (oi := { dst := some 224, op := Op.pick (Operand.tmp 219) (Operand.const (Value.bool true)) (Operand.tmp 223), type := 4, pos := "law.go:96", after := #[{ on := 38, ground := Ground.data }, { on := 42, ground := Ground.data }], guard := none }) (v := ?_) rfl (by kernel_rfl) (by kernel_rfl) (by kernel_rfl) (fun _ _ _ h => h) (Or.inl ⟨by rfl, ?_⟩) (by assumption) ?_; rotate_left; · (intro wq hSw; (try dsimp only at hSw); go_simp; try (with_reducible rfl)))
                try simp only [Act.put, List.setIfInBounds_toArray, List.set_cons_zero, List.set_cons_succ]
                refine wpAnyH_done (by kernel_rfl) ?_ _
                go_wp2
                go_roundg k
                case measure => omega
                case rel => exact ⟨i + 1, L2, q2, rfl, by first | rw [ws.out] | rfl, HQ2, ⟨by have := HK.out; omega⟩, ⟨HI3.out.below (by repeat (first | exact Below.refl _ _ | refine pw_below_drewN ?_ _ | refine below_drew ?_))⟩⟩
/-- As the row calls it. -/
theorem plays_walk (W : World) (A : Option Addr) (c : Nat) (ls : List S44) (hC : Kd.C k44 W A ls.length ls) (hc : ls.length ≤ c) (hm : ls.length ≤ maxLen) (hwf : ∀ x ∈ ls, DeedWf x) :
    Calls Try.prog 5 #[.slice A ls.length c] W fun e w' => e = .returned (.bool true) ∧ Below W.heap.size W w' := plays_law W A c ls hC hc
end Go.Proofs.Ytmmnkanijdbgpaa.Hand
