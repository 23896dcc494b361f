/- A model's pages, told: walked. -/
import Derived.Test.YtgcgnpinhlmmjaaD1
import Derived.Deep.RegionHeld3
import Derived.Deep.RegionLaw
namespace Go.Proofs.Ytgcgnpinhlmmjaa.Hand
set_option linter.unusedVariables false
set_option linter.unusedSimpArgs false
open Go.RowKit Go.Maps Go.Proofs.Ytgcgnpinhlmmjaa.R Go.Proofs.Ytgcgnpinhlmmjaa.Va Go.Proofs.YtgcgnpinhlmmjaaW.PrintWords Go.Proofs.YtgcgnpinhlmmjaaW.PrintLast Go.Proofs.YtgcgnpinhlmmjaaW.PrintMore

def pageOf (p : Pg) : S35 := ⟨((sp (4096 * p.n.toNat) : Nat) : Int), p.perm, p.data⟩
theorem info35 : (Try.prog.info? 35).map (fun i => (i.zero, i.size, i.bytes)) = some (some (.agg #[.int .u64 0, .int .i64 0, .slice none 0 0]), 3, 40) := by kernel_rfl
theorem vat_calls (n : Int) (h : 0 ≤ n ∧ n < 68719476736) (w : World) : Calls Try.prog 32 #[.int .i64 n] w fun e w' => e = .returned (.int .u64 ((sp (4096 * n.toNat) : Nat) : Int)) ∧ w' = w := by
  obtain ⟨m, rfl⟩ : ∃ m : Nat, n = (m : Int) := ⟨n.toNat, by omega⟩
  rw [Int.toNat_natCast]
  exact va_At.calls 1 m _ w (at_some 0 m (by omega))
theorem clone_calls (l : List Int) (hl : l.length ≤ 100000) (A : Option Addr) (c : Nat) (w : World) (h : Kd.C (Kd.int .u8) w A l.length l) (hc : l.length ≤ c) : Calls Try.prog 33 #[.slice A l.length c] w fun e w' => ∃ A' c', e = .returned (.slice A' l.length c') ∧ RB w' w.heap.size (fun _ => True) (.slice A' l.length c') l ∧ Below w.heap.size w w' := by
  refine (slices_Clone_byte_byte.calls A c l l w h hc (by unfold slices_Clone_byte_byte.f; rw [Option.bind_some, if_pos (by show 0 + l.length < _; omega)]; rfl)).mono ?_
  rintro e w' ⟨v, rfl, hR, hb⟩
  obtain ⟨A', c', rfl⟩ := Kd.R_slice hR
  exact ⟨A', c', rfl, hR, hb⟩
theorem i64item {w : World} {A : Option Addr} {xs : List Int} (h : Kd.C (Kd.int .i64) w A xs.length xs) (i : Nat) (hi : i < xs.length) : ∃ ad, A = some ad ∧ w.cell? (ad.add i) = some (.int .i64 xs[i]) := by
  obtain ⟨ad, c, e, _, hK, hc0⟩ := Kd.C_get h (0 : Int) i (by omega) (by omega)
  have hc : ∀ j u, c[j]? = some u → w.cell? (ad.add ((i : Int).toNat * 1 + j)) = some u := hc0
  refine ⟨ad, e, ?_⟩
  have hK' : c = [Value.int .i64 (xs.getD (i : Int).toNat 0)] := hK
  have := hc 0 _ (by rw [hK']; rfl)
  rwa [Int.toNat_natCast, Nat.mul_one, Nat.add_zero, List.getD_eq_getElem?_getD, List.getElem?_eq_getElem hi, Option.getD_some] at this
theorem bsC {w : World} {g n : Nat} {xs : List Int} (h : w.heap[g]? = some (.cells (bs xs) 5 (0, 0))) (hn : xs.length = n) (hm : n ≤ 1000000) : Kd.C (Kd.int .u8) w (some ⟨g, 0, none⟩) n xs := by
  subst hn
  exact (Kd.R_reads' (rb_of_blk (base := 0) h rfl hm (Nat.zero_le _))).2.2

set_option maxHeartbeats 8000000 in
set_option maxRecDepth 100000 in
theorem pages_calls (base bb mb cnt : Nat) (D : DataW Unit) (L : List Pg) (B : Int → Nat × Nat) (w : World) (h : MD w base bb mb cnt D L B) (hcnt : cnt ≤ 100000) (hL : L.length ≤ 100000) :
    Calls Try.prog 15 #[.pointer (some ⟨bb, 0, none⟩)] w fun e w' => ∃ A c, e = .returned (.slice A (L.map pageOf).length c) ∧ Kd.R k35 35 w' w.heap.size (fun _ => True) (.slice A (L.map pageOf).length c) (L.map pageOf) ∧ Below w.heap.size w w' := by
  have hN := numbers_calls base bb mb cnt D L B w h hcnt
  simp only [List.length_map] at hN ⊢
  replace hN := Aside0.mk hN
  replace h := Aside0.mk h
  replace hL := Aside0.mk hL
  go_enter Try.func15, Try.ntmps15
  go_wp2_with (go_at_call 31; refine hN.out.mono ?_; rintro e w1 ⟨A0, c0, rfl, hR0, hb0⟩; replace hR0 := Aside0.mk hR0; replace hb0 := Aside0.mk hb0)
  have hst : ∃ (ps : List S35) (A : Option Addr) (c : Nat), Value.slice none 0 0 = .slice A ps.length c ∧ Aside0 (ps = (L.take 0).map pageOf) ∧ Aside0 (Kd.R k35 35 w1 w1.heap.size (fun _ => True) (.slice A ps.length c) ps) := ⟨[], none, 0, rfl, ⟨rfl⟩, ⟨Kd.R_nil _ _ _ _ _⟩⟩
  replace hst := Aside0.mk hst
  go_loopg [3, 10] L.length (fun kq v3 v10 w' => ∃ (i : Nat) (ps : List S35) (A : Option Addr) (c : Nat), v10 = .int .i64 (i : Int) ∧ v3 = .slice A ps.length c ∧ Aside0 (i + kq = L.length ∧ ps = (L.take i).map pageOf) ∧ Aside0 (Kd.R k35 35 w' w1.heap.size (fun _ => True) (.slice A ps.length c) ps) ∧ Aside0 (Below w1.heap.size w1 w'))
  case atStart =>
    obtain ⟨ps, A, c, h1, h2, h3⟩ := hst.out
    exact ⟨0, ps, A, c, rfl, h1, ⟨by omega, h2.out⟩, h3, ⟨Below.refl _ _⟩⟩
  case round =>
    clear hst
    obtain ⟨i, ps, A, c, rfl, rfl, HK, HO, HB⟩ := hrel
    cases gk with
    | zero =>
      obtain rfl : i = L.length := by have := HK.out.1; omega
      have d3 : decide (((L.length : Nat) : Int) < ((L.length : Nat) : Int)) = false := decide_eq_false (by omega)
      have hps : ps = L.map pageOf := by rw [HK.out.2, List.take_length]
      have hO := HO.out
      have e9 : ps.length = L.length := by rw [hps, List.length_map]
      rw [e9, hps] at hO
      replace hO := Aside0.mk (Kd.R_lower hO hb0.out.size)
      rw [e9]
      clear hps e9
      go_wp2
      go_returns
      exact ⟨_, _, rfl, hO.out, below_step hb0.out HB.out⟩
    | succ k1 =>
      have hiL : i < L.length := by have := HK.out.1; omega
      have htk := Aside0.mk (show (L.take (i + 1)).map pageOf = (L.take i).map pageOf ++ [pageOf L[i]] by rw [List.take_succ_eq_append_getElem hiL, List.map_append]; rfl)
      have hMD := (h.out.below hb0.out).below HB.out
      have hmem := List.getElem_mem hiL
      have hq := Kd.R_reads' hR0.out
      have hql : (L.map (·.n)).length = L.length := List.length_map _
      obtain ⟨ad, eA, kx⟩ := i64item (A := A0) (xs := L.map (·.n)) (Kd.C_below hq.2.2 HB.out) i (by rw [hql]; exact hiL)
      subst eA
      rw [List.getElem_map] at kx
      generalize L[i] = p at *
      have hok := hMD.okp p hmem
      have hlk := hMD.look p.n hok.1 wr (Below.refl _ _)
      unfold pbOf at hlk
      rw [hMD.srt.get hmem] at hlk
      simp only [Option.map_some, ptrV] at hlk
      have kb : wr.cell? ⟨bb, 0, none⟩ = some (.map (some mb)) := (blk_cell hMD.blk 0).trans rfl
      have kp0 : wr.cell? ⟨(B p.n).1, 0, none⟩ = some (.int .i64 p.perm) := (blk_cell (hMD.pg p hmem) 0).trans rfl
      have kp1 : wr.cell? ⟨(B p.n).1, 1, none⟩ = some (.slice (some ⟨(B p.n).2, 0, none⟩) 4096 4096) := (blk_cell (hMD.pg p hmem) 1).trans rfl
      have hpgb := Aside0.mk (hMD.pg p hmem)
      have hV := Aside0.mk (vat_calls p.n hok.1)
      have hpl : p.data.length = 4096 := hok.2.2.1
      have hlen : ps.length ≤ 100000 := by rw [HK.out.2, List.length_map, List.length_take]; have := hL.out; omega
      have hCl := Aside0.mk (fun (W : World) (hW : Below wr.heap.size wr W) => clone_calls p.data (by omega) (some ⟨(B p.n).2, 0, none⟩) 4096 W (bsC (blk_below (hMD.dt p hmem) hW) rfl (by omega)) (by omega))
      rw [hpl] at hCl
      have hQ := Aside0.mk (fun (W : World) (hW : Below wr.heap.size wr W) => (⟨(blk_cell (blk_below (hMD.pg p hmem) hW) 0).trans rfl, (blk_cell (blk_below (hMD.pg p hmem) hW) 1).trans rfl⟩ : W.cell? ⟨(B p.n).1, 0, none⟩ = some (.int .i64 p.perm) ∧ W.cell? ⟨(B p.n).1, 1, none⟩ = some (.slice (some ⟨(B p.n).2, 0, none⟩) 4096 4096)))
      have d3 : decide ((i : Int) < (L.length : Int)) = true := decide_eq_true (by omega)
      have d3' : decide (i < L.length) = true := decide_eq_true hiL
      have i0 : (0 : Int) ≤ (i : Int) := by omega
      have ws := Aside0.mk (w64s i (by have := hL.out; omega))
      have hpg : pageOf p = ⟨((sp (4096 * p.n.toNat) : Nat) : Int), p.perm, p.data⟩ := rfl
      generalize (B p.n).1 = pb at *
      generalize (B p.n).2 = db at *
      generalize ((sp (4096 * p.n.toNat) : Nat) : Int) = at_ at *
      replace hlen := Aside0.mk hlen
      replace hpg := Aside0.mk hpg
      replace hpl := Aside0.mk hpl
      clear hMD hmem hq hql hok
      go_upto_region 6 with fail
      clear kb hlk kx
      have hvl := Aside0.mk (fun k (hk : (Value.slice A ps.length c).ownBlock = some k) => Kd.R_lt HO.out k hk)
      have hwr := Aside0.mk HB.out.size
      go_region_held3 (fun w' => w'.cell? ⟨pb, 0, none⟩ = some (.int .i64 p.perm) ∧ w'.cell? ⟨pb, 1, none⟩ = some (.slice (some ⟨db, 0, none⟩) 4096 4096))
        (first | (exact hQ.out _ (below_drew1 (Below.refl _ _))) | exact hQ.out _ g5.out | (exact ⟨(blk_cell hS6.out 0).trans rfl, (blk_cell hS6.out 1).trans rfl⟩) | go_keep)
        (first
          | (refine Kd.R_append_step k35 (w0 := w1) w1.heap.size (by rfl) (.tmp 20) (.tmp 33) 31 35 (.agg #[.int .u64 0, .int .i64 0, .slice none 0 0]) 40 rfl Try.underlying31 info35 rfl (by decide) (by omega) (.slice A ps.length c) ps ⟨at_, p.perm, p.data⟩ [.int .u64 at_, .int .i64 p.perm, .slice A5 4096 c5] (fun _ => True) (fun k => wr.heap.size ≤ k) rfl rfl (k35_mkM _ _ _ ⟨at_, p.perm, p.data⟩ hd5.out) (fun k hk => ⟨trivial, fun e => by have := hvl.out k e.symm; omega⟩) (fun _ _ => trivial) HO5.out hb5w.out (below_size hb5w.out) (by have := hlen.out; omega) ?_; intro v6 w6 ho6 hb6 hg6 hat6; obtain ⟨A6, c6, e6⟩ := Kd.R_slice ho6; subst e6; have ho6' := Aside0.mk ho6; have hb6' := Aside0.mk hb6; have hS6 := Aside0.mk (blk_grown (blk_below hpgb.out g5.out) hg6 (Kd.R_ne HO5.out (blk_below hpgb.out g5.out) (by decide))); clear hg6 hat6)
          | (go_at_call 32; refine (hV.out _).mono ?_; rintro e w9 ⟨rfl, rfl⟩)
          | (go_at_call 33; refine (hCl.out _ (show Below wr.heap.size wr _ from by repeat (first | exact Below.refl _ _ | refine pw_below_drewN ?_ _ | refine below_drew1 ?_))).mono ?_; rintro e w3 ⟨A5, c5, rfl, hr5, hb5⟩; have g5 := Aside0.mk (show Below wr.heap.size wr w3 from below_step (show Below wr.heap.size wr _ from by repeat (first | exact Below.refl _ _ | refine pw_below_drewN ?_ _ | refine below_drew1 ?_)) hb5); have hb5w := Aside0.mk (below_step HB.out g5.out); have HO5 := Aside0.mk (Kd.R_below HO.out g5.out); have hd5 := Aside0.mk (Kd.R_lower (Kd.R_mono (ok' := fun k => wr.heap.size ≤ k) (Kd.R_bound hr5) (fun k hk => hk.2.1)) hwr.out); clear hr5 hb5))
      all_goals
        go_wp2
        go_roundg k1
        case measure => omega
        case rel => exact ⟨i + 1, ps ++ [⟨at_, p.perm, p.data⟩], A6, c6, (by first | rw [ws.out] | rfl), (by rw [List.length_append]; rfl), ⟨by have := HK.out.1; omega, by rw [htk.out, ← HK.out.2, hpg.out]⟩, ho6', hb6'⟩
end Go.Proofs.Ytgcgnpinhlmmjaa.Hand
