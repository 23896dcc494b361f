/- A book's Room: walked. -/
import Derived.Test.YtoljebdicjiogaaG5
namespace Go.Proofs.Ytoljebdicjiogaa.Hand
set_option linter.unusedVariables false
set_option linter.unusedSimpArgs false
open Go.RowKit Go.Maps Go.Proofs.Ytoljebdicjiogaa.R Go.Proofs.YtoljebdicjiogaaW.PrintWords Go.Proofs.YtoljebdicjiogaaW.PrintLast Go.Proofs.YtoljebdicjiogaaW.PrintMore

/-- How many are free in all. -/
def roomF (l : List S30) (ns : List Int) (a : Int) : Int := ns.foldl (fun a n => a + ((U l n).2 - (U l n).1)) a
theorem roomF_drop (l : List S30) (ns : List Int) (i : Nat) (hi : i < ns.length) (a : Int) : roomF l (ns.drop i) a = roomF l (ns.drop (i + 1)) (a + ((U l ns[i]).2 - (U l ns[i]).1)) := by
  unfold roomF
  rw [List.drop_eq_getElem_cons hi, List.foldl_cons]

set_option maxHeartbeats 8000000 in
set_option maxRecDepth 100000 in
theorem room_calls (bb mb n : Nat) (D : DataW Unit) (l : List S30) (A : Option Addr) (c : Nat) (but : List Int) (w : World) (hB : BK w bb mb n D) (hR : RelD D l) (hn : n ≤ 100000) (hll : l.length ≤ 100000) (hC : Kd.C (Kd.int .i64) w A but.length but) (hc : but.length ≤ c) (hbl : but.length < 4611686018427387904) :
    Calls Try.prog 18 #[.pointer (some ⟨bb, 0, none⟩), .slice A but.length c] w fun e w' => e = .returned (.int .i64 (roomF l (numL l but) 0)) ∧ Below w.heap.size w w' := by
  have hN := Aside0.mk (numbers_calls bb mb n D l A c but w hB hR hn hC hc hbl)
  have hwf : ∀ k ∈ numL l but, 0 ≤ k ∧ k ≤ 4095 ∧ (Lit.int .i64 k).wf = true := fun k hk => wf_num hR hk
  have hlen := Aside0.mk (Nat.le_trans (numL_length l but) hll)
  replace hB := Aside0.mk hB
  replace hR := Aside0.mk hR
  replace hwf := Aside0.mk hwf
  obtain ⟨ns, hns⟩ : ∃ ns, Aside0 (numL l but = ns) := ⟨_, ⟨rfl⟩⟩
  rw [hns.out] at hN hwf hlen ⊢
  clear hn hll hC hc hbl
  go_enter Try.func18, Try.ntmps18
  go_wp2_with (go_at_call 25; refine hN.out.mono ?_; rintro e w1 ⟨A', c', rfl, hC1, hb1⟩; replace hC1 := Aside0.mk hC1; replace hb1 := Aside0.mk hb1)
  go_loopg [5, 12] ns.length (fun kq v5 v12 w' => ∃ (a : Int) (i : Nat), v5 = .int .i64 a ∧ v12 = .int .i64 (i : Int) ∧ Aside0 (i + kq = ns.length ∧ 0 ≤ a ∧ a ≤ (i : Int) * 100000000 ∧ roomF l ns 0 = roomF l (ns.drop i) a) ∧ Aside0 (Below w1.heap.size w1 w'))
  case atStart => exact ⟨0, 0, rfl, rfl, ⟨by omega, by omega, by omega, by simp⟩, ⟨Below.refl _ _⟩⟩
  case round =>
    obtain ⟨a, i, rfl, rfl, HK, HB⟩ := hrel
    cases gk with
    | zero =>
      obtain rfl : i = ns.length := by have := HK.out; omega
      have d3 : decide (((ns.length : Nat) : Int) < ((ns.length : Nat) : Int)) = false := decide_eq_false (by omega)
      have r := HK.out.2.2.2
      rw [List.drop_eq_nil_of_le (Nat.le_refl _)] at r
      replace r := Aside0.mk r
      go_wp2
      go_returns
      rw [r.out]
      exact ⟨rfl, below_step hb1.out HB.out⟩
    | succ k1 =>
      have hi : i < ns.length := by have := HK.out; omega
      have d3 : decide ((i : Int) < ((ns.length : Nat) : Int)) = true := decide_eq_true (by omega)
      have d4 : decide (0 ≤ (i : Int)) = true := decide_eq_true (by omega)
      have d6 : decide (i < ns.length) = true := decide_eq_true hi
      obtain ⟨bd, eB, hc⟩ := elemI (Kd.C_below hC1.out HB.out) i hi
      have hk := hwf.out _ (List.getElem_mem hi)
      have r := HK.out.2.2.2
      rw [roomF_drop l ns i hi] at r
      generalize ns[i] = k at hc hk r
      subst eB
      have hBw := hB.out.below (below_step hb1.out HB.out)
      have kb : wr.cell? ⟨bb, 0, none⟩ = some (.map (some mb)) := (blk_cell hBw.blk 0).trans rfl
      have hlook := bk_look hBw hR.out k hk.2.2
      have hof := hR.out.U_small k
      have hok := hR.out.U_ok k
      obtain ⟨u, hu⟩ : ∃ u, u = (U l k).1 := ⟨_, rfl⟩
      obtain ⟨m, hm⟩ : ∃ m, m = (U l k).2 := ⟨_, rfl⟩
      rw [← hu, ← hm] at hlook hof hok r
      have hF := Aside0.mk (fun w => free_calls u m hof w)
      have ws := Aside0.mk (w64s i (by have := hlen.out; omega))
      have wa := Aside0.mk (w64r (a + (m - u)) (by have := HK.out; omega) (by have := hlen.out; have := HK.out; omega))
      replace r := Aside0.mk r
      replace hok := Aside0.mk hok
      clear hu hm hof hk hBw
      go_wp2_with (go_at_call 26; refine (hF.out _).mono ?_; rintro e w2 ⟨rfl, hb2⟩; replace hb2 := Aside0.mk hb2)
      go_roundg k1
      case measure => omega
      case rel => exact ⟨a + (m - u), i + 1, by rw [wa.out], by rw [ws.out], ⟨by have := HK.out; omega, by have := HK.out; have := hok.out; omega, by have := HK.out; have := hok.out; omega, r.out⟩, ⟨below_step HB.out hb2.out⟩⟩
end Go.Proofs.Ytoljebdicjiogaa.Hand
