/- Does: walked. -/
import Derived.Test.YtgcgnpinhlmmjaaA8
namespace Go.Proofs.Ytgcgnpinhlmmjaa.Hand
set_option linter.unusedVariables false
set_option linter.unusedSimpArgs false
open Go.RowKit Go.Maps Go.Proofs.Ytgcgnpinhlmmjaa.R Go.Proofs.Ytgcgnpinhlmmjaa.Va Go.Proofs.YtgcgnpinhlmmjaaW.PrintWords Go.Proofs.YtgcgnpinhlmmjaaW.PrintLast Go.Proofs.YtgcgnpinhlmmjaaW.PrintMore

def DoesR (w : World) (base bb mb cnt : Nat) (L L' : List Pg) (B : Int → Nat × Nat) (rs : List S28) (e : Ending) (w' : World) : Prop := ∃ v, e = .returned v ∧ DI w w' base bb mb cnt L L' B v rs

set_option maxHeartbeats 8000000 in
set_option maxRecDepth 100000 in
theorem Does_calls (base bb mb cnt : Nat) (D : DataW Unit) (L : List Pg) (B : Int → Nat × Nat) (ops : List S25) (hwf : ∀ o ∈ ops, okO o) (hn : ops.length ≤ 1000) (A : Option Addr) (c : Nat) (w : World) (h : MD w base bb mb cnt D L B) (hcnt : cnt ≤ 100000) (okp : Nat → Prop) (hF : Kd.F k25 w okp A ops.length ops) (hok : ∀ k, okp k → ¬ Mown mb L B k) :
    Calls Try.prog 14 #[.pointer (some ⟨bb, 0, none⟩), .slice A ops.length c] w (DoesR w base bb mb (cnt + ops.length) L (runL L ops).1 B (runL L ops).2) := by
  have hown := h.own_lt
  have h0 := Aside0.mk (⟨⟨B, h.e, fun _ hk => .inl hk, Far.refl _ _, Kd.R_nil _ _ _ _ _⟩⟩ : DI w w base bb mb (cnt + 0) L L B (.slice none 0 0) [])
  replace hF := Kd.F_bound hF
  replace hok : ∀ k, okp k ∧ k < w.heap.size → ¬ Mown mb L B k := fun k hk => hok k hk.1
  replace h := Aside0.mk h
  replace hF := Aside0.mk hF
  replace hok := Aside0.mk hok
  replace hwf := Aside0.mk hwf
  replace hown := Aside0.mk hown
  go_enter Try.func14, Try.ntmps14
  go_wp2
  go_loopg [5, 11] ops.length (fun kq v5 v11 w' => ∃ i : Nat, v11 = .int .i64 (i : Int) ∧ Aside0 (i + kq = ops.length) ∧ Aside0 (DI w w' base bb mb (cnt + i) L (runL L (ops.take i)).1 B v5 (runL L (ops.take i)).2))
  case atStart => exact ⟨0, rfl, ⟨by omega⟩, h0⟩
  case round =>
    obtain ⟨i, rfl, HK, HD⟩ := hrel
    obtain ⟨B1, hME, hsub, hfar, hR⟩ := HD.out.out
    obtain ⟨Av, cv, ev⟩ := Kd.R_slice hR
    subst ev
    cases gk with
    | zero =>
      obtain rfl : i = ops.length := by have := HK.out; omega
      have d3 : decide (((ops.length : Nat) : Int) < ((ops.length : Nat) : Int)) = false := decide_eq_false (by omega)
      have hD := HD.out
      rw [List.take_length] at hD ⊢
      obtain ⟨q, hq⟩ : ∃ q, q = (runL L ops).2.length := ⟨_, rfl⟩
      rw [← hq] at hD ⊢
      replace hD := Aside0.mk hD
      clear HD hsub hfar hR hME h0 hq
      go_wp2
      go_returns
      exact ⟨_, rfl, hD.out⟩
    | succ k1 =>
      have hi : i < ops.length := by have := HK.out; omega
      have hrt := Aside0.mk (runL_take L ops i hi)
      have hFi := Kd.F_step hF.out (fun k hk hlt => hfar.block k hlt (hok.out k hk))
      obtain ⟨ad, A4, c4, eA, x0, x1, x2, x3, x4, hF4⟩ := atF25 hFi i hi
      subst eA
      have hwo := Aside0.mk (hwf.out _ (List.getElem_mem hi))
      generalize ops[i] = o at *
      have hlen : (runL L (ops.take i)).2.length ≤ 1000 := by rw [runL_length, List.length_take]; omega
      generalize hLi : (runL L (ops.take i)).1 = Li at *
      generalize hRi : (runL L (ops.take i)).2 = rs at *
      obtain ⟨D1, hM⟩ := hME
      have ws := Aside0.mk (w64s i (by omega))
      have d3 : decide ((i : Int) < (ops.length : Int)) = true := decide_eq_true (by omega)
      have d3' : decide (i < ops.length) = true := decide_eq_true hi
      have i0 : (0 : Int) ≤ (i : Int) := by omega
      have hlt1 := hM.own_lt
      replace hM := Aside0.mk hM
      replace hsub := Aside0.mk hsub
      replace hfar := Aside0.mk hfar
      replace hR := Aside0.mk hR
      replace hF4 := Aside0.mk hF4
      replace hlen := Aside0.mk hlen
      replace hLi := Aside0.mk hLi
      replace hRi := Aside0.mk hRi
      replace hlt1 := Aside0.mk hlt1
      clear h0 HD
      go_upto_region 6 with fail
      have hb1 := below_alloc (below_alloc (Below.refl _ wr) (.cells #[.int .i64 o.f0, .int .i64 o.f1, .int .i64 o.f2, .int .u64 o.f3, .slice A4 o.f4.length c4] 25 (0, 0))) (.cells #[.int .i64 1, .int .i64 0, .slice none 0 0] 28 (0, 0))
      have q0 := blk_alloc (blk_new wr (.cells #[.int .i64 o.f0, .int .i64 o.f1, .int .i64 o.f2, .int .u64 o.f3, .slice A4 o.f4.length c4] 25 (0, 0))) (.cells #[.int .i64 1, .int .i64 0, .slice none 0 0] 28 (0, 0))
      have q1 := blk_new (wr.alloc (.cells #[.int .i64 o.f0, .int .i64 o.f1, .int .i64 o.f2, .int .u64 o.f3, .slice A4 o.f4.length c4] 25 (0, 0))) (.cells #[.int .i64 1, .int .i64 0, .slice none 0 0] 28 (0, 0))
      rw [World.size_alloc] at q1
      have hz : ((wr.alloc (.cells #[.int .i64 o.f0, .int .i64 o.f1, .int .i64 o.f2, .int .u64 o.f3, .slice A4 o.f4.length c4] 25 (0, 0))).alloc (.cells #[.int .i64 1, .int .i64 0, .slice none 0 0] 28 (0, 0))).heap.size = wr.heap.size + 2 := by rw [World.size_alloc, World.size_alloc]
      have hM1 := hM.out.below hb1
      have hF1 := Kd.F_below hF4.out hb1
      generalize ((wr.alloc (.cells #[.int .i64 o.f0, .int .i64 o.f1, .int .i64 o.f2, .int .u64 o.f3, .slice A4 o.f4.length c4] 25 (0, 0))).alloc (.cells #[.int .i64 1, .int .i64 0, .slice none 0 0] 28 (0, 0))) = w1 at *
      clear x0 x1 x2 x3 x4
      have x0 : w1.cell? ⟨wr.heap.size, 0, none⟩ = some (.int .i64 o.f0) := (blk_cell q0 0).trans rfl
      have x1 : w1.cell? ⟨wr.heap.size, 1, none⟩ = some (.int .i64 o.f1) := (blk_cell q0 1).trans rfl
      have x2 : w1.cell? ⟨wr.heap.size, 2, none⟩ = some (.int .i64 o.f2) := (blk_cell q0 2).trans rfl
      have x3 : w1.cell? ⟨wr.heap.size, 3, none⟩ = some (.int .u64 o.f3) := (blk_cell q0 3).trans rfl
      have x4 : w1.cell? ⟨wr.heap.size, 4, none⟩ = some (.slice A4 o.f4.length c4) := (blk_cell q0 4).trans rfl
      have hC := Aside0.mk (does_calls base bb mb (cnt + i) D1 Li B1 o hwo.out A4 c4 w1 hM1 (by omega) _ hF1 (fun k hk hm => (hsub.out k hm).elim (hok.out k hk) (fun e => by
        have := hk.2
        omega)))
      replace hb1 := Aside0.mk hb1
      replace q1 := Aside0.mk q1
      replace hz := Aside0.mk hz
      clear q0 hM1 hF1
      go_upto_region 8 with (go_at_call 30; refine hC.out.mono ?_; rintro e w2 ⟨v, rfl, hdn⟩; replace hdn := Aside0.mk hdn; obtain ⟨B2, m1, m2, m3, m4⟩ := hdn.out.out; obtain ⟨Av2, cv2, ev2⟩ := Kd.R_slice m4; subst ev2; have p1 := m3.blk q1.out (fun hm => by have := hlt1.out _ (.inr hm); omega); have kc0 := (blk_cell p1 0).trans rfl; have kc1 := (blk_cell p1 1).trans rfl; have kc2 := (blk_cell p1 2).trans rfl; have f10 := blk_frozen p1 0; have f11 := blk_frozen p1 1; have f12 := blk_frozen p1 2; replace p1 := Aside0.mk p1; replace m1 := Aside0.mk m1; replace m2 := Aside0.mk m2; replace m3 := Aside0.mk m3; replace m4 := Aside0.mk m4)
      have P3 := blk_put (cs' := #[.int .i64 (doesL Li o).2.1, .int .i64 0, .slice Av2 (doesL Li o).2.2.length cv2]) (blk_put (cs' := #[.int .i64 (doesL Li o).2.1, .int .i64 0, .slice none 0 0]) (blk_put (cs' := #[.int .i64 (doesL Li o).2.1, .int .i64 0, .slice none 0 0]) p1.out 0 (.int .i64 (doesL Li o).2.1) (by simp)) 1 (.int .i64 0) (by simp)) 2 (.slice Av2 (doesL Li o).2.2.length cv2) (by simp)
      have f3 : Far (fun k => k = wr.heap.size + 1) w2 (((w2.setCell ⟨wr.heap.size + 1, 0, none⟩ (.int .i64 (doesL Li o).2.1)).setCell ⟨wr.heap.size + 1, 1, none⟩ (.int .i64 0)).setCell ⟨wr.heap.size + 1, 2, none⟩ (.slice Av2 (doesL Li o).2.2.length cv2)) := (((Far.refl _ w2).set1 _ _).set1 _ _).set1 _ _
      generalize (((w2.setCell ⟨wr.heap.size + 1, 0, none⟩ (.int .i64 (doesL Li o).2.1)).setCell ⟨wr.heap.size + 1, 1, none⟩ (.int .i64 0)).setCell ⟨wr.heap.size + 1, 2, none⟩ (.slice Av2 (doesL Li o).2.2.length cv2)) = w3 at *
      clear kc0 kc1 kc2 f10 f11 f12 x0 x1 x2 x3 x4 hC
      have kc0 : w3.cell? ⟨wr.heap.size + 1, 0, none⟩ = some (.int .i64 (doesL Li o).2.1) := (blk_cell P3 0).trans rfl
      have kc1 : w3.cell? ⟨wr.heap.size + 1, 1, none⟩ = some (.int .i64 0) := (blk_cell P3 1).trans rfl
      have kc2 : w3.cell? ⟨wr.heap.size + 1, 2, none⟩ = some (.slice Av2 (doesL Li o).2.2.length cv2) := (blk_cell P3 2).trans rfl
      have hwr := hfar.out.size
      have hw1 := hz.out
      have hw2 := m3.out.size
      have hw3 := f3.size
      obtain ⟨D2, hM2⟩ := m1.out
      have hsub2 : ∀ k, Mown mb (doesL Li o).1 B2 k → Mown mb L B k ∨ w.heap.size ≤ k := fun k hk => (m2.out k hk).elim (fun hk => hsub.out k hk) (fun e => .inr (by omega))
      have hnb : ∀ k, k = bb ∨ Mown mb (doesL Li o).1 B2 k → k < wr.heap.size ∨ w1.heap.size ≤ k := fun k hk => hk.elim (fun e => .inl (hlt1.out k (.inl e)).2) (fun hk => (m2.out k hk).elim (fun hk => .inl (hlt1.out k (.inr hk)).2) .inr)
      have hM3 := hM2.stay f3 (fun k hk e => by have := hnb k hk; omega)
      have hfar3 : Far (Mown mb L B) w w3 := ((hfar.out.then_ (Far.of_below hb1.out)).trans m3.out (fun k hk => (hsub.out k hk).imp id (fun e => e))).trans f3 (fun k e => .inr (by omega))
      have hR1 := Kd.R_bound hR.out
      have hR2 : Kd.R k28 28 w2 w.heap.size (fun k => (¬ Mown mb (doesL Li o).1 B2 k ∧ k ≠ bb) ∧ k < wr.heap.size) (.slice Av rs.length cv) rs := by
        refine Kd.R_mono (Kd.R_step (Kd.R_below hR1 hb1.out) (fun k hk _ => m3.out.block k (by have := hk.2.2.1; omega) hk.1.1)) (fun k hk => ⟨⟨fun hm => ?_, hk.1.2⟩, hk.2.2.1⟩)
        rcases m2.out k hm with hm | hm
        · exact hk.1.1 hm
        · have := hk.2.2.1; omega
      have hR3 : Kd.R k28 28 w3 w.heap.size (fun k => (¬ Mown mb (doesL Li o).1 B2 k ∧ k ≠ bb) ∧ k < wr.heap.size) (.slice Av rs.length cv) rs := Kd.R_step hR2 (fun k hk hlt => f3.block k hlt (fun e => by have := hk.2; omega))
      have hvb : ∀ k, (Value.slice Av rs.length cv).ownBlock = some k → (¬ Mown mb (doesL Li o).1 B2 k ∧ k ≠ bb) ∧ k < wr.heap.size := hR3.1
      have hvl : ∀ k, (Value.slice Av rs.length cv).ownBlock = some k → w.heap.size ≤ k := fun k hk => Kd.R_base hR3 k hk
      have hMp : k28.M w3 w.heap.size (fun k => (¬ Mown mb (doesL Li o).1 B2 k ∧ k ≠ bb) ∧ w1.heap.size ≤ k) (ansOf Li o) [.int .i64 (doesL Li o).2.1, .int .i64 0, .slice Av2 (doesL Li o).2.2.length cv2] := by
        refine k28_mkM w3 w.heap.size _ (ansOf Li o) ?_
        have e1 := Kd.R_bound m4.out
        exact Kd.R_lower (Kd.R_mono (Kd.R_step e1 (fun k hk hlt => f3.block k hlt (fun e => by have := hk.2.1; omega))) (fun k hk => ⟨hk.1, hk.2.1⟩)) (by omega)
      have hfresh : ∀ k, w3.heap.size ≤ k → ¬ Mown mb (doesL Li o).1 B2 k ∧ k ≠ bb := fun k hk => ⟨fun hm => by have := (hM3.own_lt k (.inr hm)).2; omega, fun e => by have := (hM3.own_lt k (.inl e)).2; omega⟩
      have hR4 : Kd.R k28 28 w3 w.heap.size (fun k => ¬ Mown mb (doesL Li o).1 B2 k ∧ k ≠ bb) (.slice Av rs.length cv) rs := Kd.R_mono hR3 (fun k hk => hk.1)
      have hokp : ∀ k, (¬ Mown mb (doesL Li o).1 B2 k ∧ k ≠ bb) ∧ w1.heap.size ≤ k → (¬ Mown mb (doesL Li o).1 B2 k ∧ k ≠ bb) ∧ some k ≠ (Value.slice Av rs.length cv).ownBlock := fun k hk => ⟨hk.1, fun e => by have := (hvb k e.symm).2; have := hk.2; omega⟩
      replace hMp := Aside0.mk hMp
      replace hfresh := Aside0.mk hfresh
      replace hR4 := Aside0.mk hR4
      replace hokp := Aside0.mk hokp
      replace hvb := Aside0.mk hvb
      replace hvl := Aside0.mk hvl
      replace hM3 := Aside0.mk hM3
      replace hfar3 := Aside0.mk hfar3
      replace hsub2 := Aside0.mk hsub2
      have hws := Aside0.mk (show w.heap.size ≤ w3.heap.size by omega)
      clear hR1 hR2 hR3 hnb hM2 hwr hw1 hw2 hw3 P3 f3
      go_wp2_with (at_builtin; refine Kd.R_append k28 (W := w3) (w0 := w3) w.heap.size rfl _ _ 43 28 _ 40 rfl Try.underlying43 info28 rfl (by decide) (by decide) (.slice Av rs.length cv) rs (ansOf Li o) [.int .i64 (doesL Li o).2.1, .int .i64 0, .slice Av2 (doesL Li o).2.2.length cv2] (fun k => ¬ Mown mb (doesL Li o).1 B2 k ∧ k ≠ bb) _ rfl rfl hMp.out hokp.out hfresh.out hR4.out (Below.refl _ _) hws.out (by have := hlen.out; omega) ?_; intro v4 w4 hR5 hb5 hg5 hat5; replace hR5 := Aside0.mk hR5; replace hg5 := Aside0.mk hg5; clear hb5 hat5)
      have hfin : DI w w4 base bb mb (cnt + (i + 1)) L (runL L (ops.take (i + 1))).1 B v4 (runL L (ops.take (i + 1))).2 := by
        rw [hrt.out]
        have hf4 : Far (fun k => some k = (Value.slice Av rs.length cv).ownBlock) w3 w4 := ⟨hg5.out.os, hg5.out.tape, hg5.out.output, hg5.out.size, fun k hk hn => hg5.out.block k hk hn⟩
        exact ⟨⟨B2, ((hM3.out.stay hf4 (fun k hk e => hk.elim (fun e2 => (hvb.out k e.symm).1.2 e2) (fun hm => (hvb.out k e.symm).1.1 hm))).mono (by omega)).e, hsub2.out, hfar3.out.trans hf4 (fun k e => .inr (hvl.out k e.symm)), hR5.out⟩⟩
      replace hfin := Aside0.mk hfin
      go_roundg k1
      case measure => omega
      case rel => exact ⟨i + 1, (by first | rw [ws.out] | rfl), ⟨by have := HK.out; omega⟩, hfin⟩
end Go.Proofs.Ytgcgnpinhlmmjaa.Hand
