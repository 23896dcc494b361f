/- TlbNear, walked. -/
import Derived.Test.YtfmkjdbhijeejaaT3
namespace Go.Proofs.Ytfmkjdbhijeejaa.Hand
set_option linter.unusedVariables false
set_option linter.unusedSimpArgs false
open Go.RowKit Go.Proofs.Ytfmkjdbhijeejaa.R Go.Proofs.YtfmkjdbhijeejaaW.PrintWords Go.Proofs.YtfmkjdbhijeejaaW.PrintMore

/-- Sixteen pages from F on: those below n are noted, the others' places are empty. -/
structure Inv1 (F : Nat) (fr : Nat → Int) (L : List Int) (n : Nat) : Prop where
  len : L.length = 50
  hits : L[48]? = some 0
  misses : L[49]? = some 0
  there : ∀ j, j < n → L[(F + j) % 16 * 3]? = some ((F + j + 1 : Nat) : Int) ∧ L[(F + j) % 16 * 3 + 1]? = some (fr j) ∧ L[(F + j) % 16 * 3 + 2]? = some 5
  empty : ∀ j, n ≤ j → j < 16 → L[(F + j) % 16 * 3]? = some 0

theorem noteL_len (L : List Int) (p : Nat) (f m : Int) : (noteL L p f m).length = L.length := by unfold noteL; simp
theorem noteL_other (L : List Int) (p : Nat) (f m : Int) (k : Nat) (h : k ≠ p % 16 * 3) (h1 : k ≠ p % 16 * 3 + 1) (h2 : k ≠ p % 16 * 3 + 2) : (noteL L p f m)[k]? = L[k]? := by
  unfold noteL
  rw [List.getElem?_set_ne (by omega), List.getElem?_set_ne (by omega), List.getElem?_set_ne (by omega)]
theorem noteL_page (L : List Int) (p : Nat) (f m : Int) (hL : L.length = 50) : (noteL L p f m)[p % 16 * 3]? = some ((p + 1 : Nat) : Int) := by
  have : p % 16 < 16 := Nat.mod_lt _ (by decide)
  unfold noteL
  rw [List.getElem?_set_ne (by omega), List.getElem?_set_ne (by omega), List.getElem?_set_self (by omega)]
theorem noteL_frame (L : List Int) (p : Nat) (f m : Int) (hL : L.length = 50) : (noteL L p f m)[p % 16 * 3 + 1]? = some f := by
  have : p % 16 < 16 := Nat.mod_lt _ (by decide)
  unfold noteL
  rw [List.getElem?_set_ne (by omega), List.getElem?_set_self (by simp; omega)]
theorem noteL_uses (L : List Int) (p : Nat) (f m : Int) (hL : L.length = 50) (h : L[p % 16 * 3]? ≠ some ((p + 1 : Nat) : Int)) : (noteL L p f m)[p % 16 * 3 + 2]? = some m := by
  have : p % 16 < 16 := Nat.mod_lt _ (by decide)
  unfold noteL
  rw [List.getElem?_set_self (by simp; omega), if_neg (fun h2 => h h2.1)]

theorem Inv1.step {F : Nat} {fr : Nat → Int} {L : List Int} {i : Nat} (h : Inv1 F fr L i) (hi : i < 16) : Inv1 F fr (noteL L (F + i) (fr i) 5) (i + 1) := by
  have e0 := h.empty i (Nat.le_refl _) hi
  have hne : L[(F + i) % 16 * 3]? ≠ some ((F + i + 1 : Nat) : Int) := by rw [e0]; intro h2; have := Option.some.inj h2; omega
  have m1 : (F + i) % 16 < 16 := Nat.mod_lt _ (by decide)
  refine ⟨by rw [noteL_len]; exact h.len, ?_, ?_, fun j hj => ?_, fun j h1 h2 => ?_⟩
  · rw [noteL_other _ _ _ _ _ (by omega) (by omega) (by omega)]; exact h.hits
  · rw [noteL_other _ _ _ _ _ (by omega) (by omega) (by omega)]; exact h.misses
  · by_cases e : j = i
    · subst e
      exact ⟨noteL_page _ _ _ _ h.len, noteL_frame _ _ _ _ h.len, noteL_uses _ _ _ _ h.len hne⟩
    · have m2 : (F + j) % 16 ≠ (F + i) % 16 := by omega
      obtain ⟨a, b, c⟩ := h.there j (by omega)
      refine ⟨?_, ?_, ?_⟩
      · rw [noteL_other _ _ _ _ _ (by omega) (by omega) (by omega)]; exact a
      · rw [noteL_other _ _ _ _ _ (by omega) (by omega) (by omega)]; exact b
      · rw [noteL_other _ _ _ _ _ (by omega) (by omega) (by omega)]; exact c
  · have m2 : (F + j) % 16 ≠ (F + i) % 16 := by omega
    rw [noteL_other _ _ _ _ _ (by omega) (by omega) (by omega)]
    exact h.empty j (by omega) h2

/-- All sixteen are noted; so many hits. -/
structure Inv2 (F : Nat) (fr : Nat → Int) (L : List Int) (n : Int) : Prop where
  len : L.length = 50
  hits : L[48]? = some n
  misses : L[49]? = some 0
  there : ∀ j, j < 16 → L[(F + j) % 16 * 3]? = some ((F + j + 1 : Nat) : Int) ∧ L[(F + j) % 16 * 3 + 1]? = some (fr j) ∧ L[(F + j) % 16 * 3 + 2]? = some 5
theorem Inv2.step {F : Nat} {fr : Nat → Int} {L : List Int} {n : Int} (h : Inv2 F fr L n) : Inv2 F fr (L.set 48 (wrap64 (n + 1))) (wrap64 (n + 1)) := by
  have hl := h.len
  refine ⟨by simp [hl], by rw [List.getElem?_set_self (by omega)], by rw [List.getElem?_set_ne (by omega)]; exact h.misses, fun j hj => ?_⟩
  have m1 : (F + j) % 16 < 16 := Nat.mod_lt _ (by decide)
  obtain ⟨a, b, c⟩ := h.there j hj
  rw [List.getElem?_set_ne (by omega), List.getElem?_set_ne (by omega), List.getElem?_set_ne (by omega)]
  exact ⟨a, b, c⟩
theorem Inv2.found {F : Nat} {fr : Nat → Int} {L : List Int} {n : Int} (h : Inv2 F fr L n) (hF : F < 4294967296) (j : Nat) (hj : j < 16) : findOk L (F + j) 4 := by
  obtain ⟨a, b, c⟩ := h.there j hj
  refine ⟨by omega, by omega, a, ?_⟩
  rw [c]
  decide +kernel

set_option maxHeartbeats 8000000 in
set_option maxRecDepth 100000 in
theorem near_calls (F : Nat) (hF : F < 4294967296) (fs : List Int) (hfs : fs.length = 16) (hb : ∀ x ∈ fs, 0 ≤ x ∧ x < 256) (w : World) :
    Calls Try.prog 3 #[.int .u32 (F : Int), .agg (fs.map (Value.int .u8)).toArray] w fun e w' => e = .returned (.bool true) ∧ Below w.heap.size w w' := by
  obtain ⟨A, hA⟩ : ∃ A, A = (fs.map (Value.int .u8)).toArray := ⟨_, rfl⟩
  rw [← hA]
  replace hF := Aside0.mk hF
  replace hfs := Aside0.mk hfs
  replace hb := Aside0.mk hb
  replace hA := Aside0.mk hA
  go_enter Try.func3, Try.ntmps3
  go_wp2_with (first | (go_at_call 6; refine (new_calls _).mono ?_; rintro e w' ⟨rfl, rfl⟩))
  go_loopg [7] 16 (fun kq v7 w' => ∃ (i : Nat) (L : List Int), v7 = .int .i64 (i : Int) ∧ Aside0 (i + kq = 16) ∧ Aside0 (Inv1 F (fun j => wrap64 (Int.tmod (fs.getD j 0) 96)) L i) ∧ Aside0 (w'.heap[w.heap.size + 1]? = some (.cells (ints L) 53 (0, 0))) ∧ Aside0 (Far (fun x => x = w.heap.size + 1) ((w.alloc (.cells A 23 (0, 0))).alloc (.cells (ints zeros) 53 (0, 0))) w'))
  case atStart =>
    refine ⟨0, zeros, rfl, ⟨by omega⟩, ⟨?_⟩, ⟨?_⟩, ⟨Far.refl _ _⟩⟩
    · refine ⟨by decide +kernel, by decide +kernel, by decide +kernel, fun j hj => absurd hj (Nat.not_lt_zero j), fun j _ hj => ?_⟩
      have : (F + j) % 16 < 16 := Nat.mod_lt _ (by decide)
      unfold zeros
      rw [List.getElem?_replicate, if_pos (by omega)]
    · have z := blk_new (w.alloc (.cells A 23 (0, 0))) (.cells (ints zeros) 53 (0, 0))
      simp only [World.size_alloc] at z
      exact z
  case round =>
    obtain ⟨i, L, rfl, HK, HI, HB, HF⟩ := hrel
    cases gk with
    | zero =>
      obtain rfl : i = 16 := by have := HK.out; omega
      have I2 : Aside0 (Inv2 F (fun j => wrap64 (Int.tmod (fs.getD j 0) 96)) L 0) := ⟨⟨HI.out.len, HI.out.hits, HI.out.misses, HI.out.there⟩⟩
      go_wp2
      go_loopg [8] 16 (fun kq v8 w' => ∃ (i : Nat) (L : List Int), v8 = .int .i64 (i : Int) ∧ Aside0 (i + kq = 16) ∧ Aside0 (Inv2 F (fun j => wrap64 (Int.tmod (fs.getD j 0) 96)) L (i : Int)) ∧ Aside0 (w'.heap[w.heap.size + 1]? = some (.cells (ints L) 53 (0, 0))) ∧ Aside0 (Far (fun x => x = w.heap.size + 1) ((w.alloc (.cells A 23 (0, 0))).alloc (.cells (ints zeros) 53 (0, 0))) w'))
      case atStart => exact ⟨0, L, rfl, ⟨by omega⟩, I2, HB, HF⟩
      case round =>
        clear HB HF HI I2 HK
        obtain ⟨i, L, rfl, HK, HI, HB, HF⟩ := hrel
        have hA0 : wr.heap[w.heap.size]? = some (.cells A 23 (0, 0)) := by
          rw [HF.out.block w.heap.size (by simp; omega) (by omega)]
          exact blk_alloc (blk_new w _) _
        cases gk with
        | zero =>
          obtain rfl : i = 16 := by have := HK.out; omega
          have hF0 := hF.out
          have hl := HI.out.len
          have m0 : F % 16 < 16 := Nat.mod_lt _ (by decide)
          have mo : (F + 16) % 16 = F % 16 := by omega
          obtain ⟨L1, eL1⟩ : ∃ L1, L1 = noteL L (F + 16) 1 1 := ⟨_, rfl⟩
          obtain ⟨L2, eL2⟩ : ∃ L2, L2 = L1.set 49 (wrap64 (0 + 1)) := ⟨_, rfl⟩
          obtain ⟨L3, eL3⟩ : ∃ L3, L3 = L2.set 48 (wrap64 (16 + 1)) := ⟨_, rfl⟩
          have l1 : L1.length = 50 := by rw [eL1, noteL_len]; exact hl
          have l2 : L2.length = 50 := by rw [eL2]; simp [l1]
          have l3 : L3.length = 50 := by rw [eL3]; simp [l2]
          have t0 := (HI.out.there 0 (by omega)).1
          rw [Nat.add_zero] at t0
          have p1 : L1[F % 16 * 3]? = some ((F + 16 + 1 : Nat) : Int) := by rw [eL1, ← mo]; exact noteL_page L (F + 16) 1 1 hl
          have p2 : L1[F % 16 * 3 + 1]? = some 1 := by rw [eL1, ← mo]; exact noteL_frame L (F + 16) 1 1 hl
          have p3 : L1[F % 16 * 3 + 2]? = some 1 := by
            rw [eL1, ← mo]
            refine noteL_uses L (F + 16) 1 1 hl ?_
            rw [mo, t0]
            intro h2
            have := Option.some.inj h2
            omega
          have p4 : L1[48]? = some 16 := by rw [eL1, noteL_other _ _ _ _ _ (by omega) (by omega) (by omega)]; exact HI.out.hits
          have p5 : L1[49]? = some 0 := by rw [eL1, noteL_other _ _ _ _ _ (by omega) (by omega) (by omega)]; exact HI.out.misses
          have q1 : L2[F % 16 * 3]? = some ((F + 16 + 1 : Nat) : Int) := by rw [eL2, List.getElem?_set_ne (by omega)]; exact p1
          have q2 : L2[F % 16 * 3 + 1]? = some 1 := by rw [eL2, List.getElem?_set_ne (by omega)]; exact p2
          have q3 : L2[F % 16 * 3 + 2]? = some 1 := by rw [eL2, List.getElem?_set_ne (by omega)]; exact p3
          have q4 : L2[48]? = some 16 := by rw [eL2, List.getElem?_set_ne (by omega)]; exact p4
          have r4 : L3[48]? = some 17 := by rw [eL3, List.getElem?_set_self (by omega)]; decide +kernel
          have r5 : L3[49]? = some 1 := by rw [eL3, List.getElem?_set_ne (by omega), eL2, List.getElem?_set_self (by omega)]; decide +kernel
          have nf : ¬ findOk L1 F 1 := by
            intro h2
            have h3 := h2.2.2.1
            rw [p1] at h3
            have := Option.some.inj h3
            omega
          have ff : findOk L2 (F + 16) 1 := by
            refine ⟨.inl rfl, by omega, ?_, ?_⟩
            · rw [mo]; exact q1
            · rw [mo, q3]; decide +kernel
          have q2' : L2[(F + 16) % 16 * 3 + 1]? = some 1 := by rw [mo]; exact q2
          have C1 := note1 (w.heap.size + 1) L (F + 16) 1 1 1 wr HB.out hl (by decide +kernel) (by omega) (by omega) (by omega) wr.heap.size rfl (wrap64 (wrap64 (F : Int) + 16)) (by unfold wrap64; omega)
          rw [← eL1] at C1
          have C2 := fun W (h : W.heap[w.heap.size + 1]? = some (.cells (ints L1) 53 (0, 0))) => findn (w.heap.size + 1) L1 F 1 W h l1 (.inl rfl) (by omega) nf 0 p5 (wrap64 (F : Int)) (by unfold wrap64; omega)
          rw [← eL2] at C2
          have C3 := fun W (h : W.heap[w.heap.size + 1]? = some (.cells (ints L2) 53 (0, 0))) => findy (w.heap.size + 1) L2 (F + 16) 1 W h l2 ff 16 q4 1 q2' (wrap64 (wrap64 (F : Int) + 16)) (by unfold wrap64; omega)
          rw [← eL3] at C3
          replace C1 := Aside0.mk C1
          replace C2 := Aside0.mk C2
          replace C3 := Aside0.mk C3
          replace r4 := Aside0.mk r4
          replace r5 := Aside0.mk r5
          clear hF0 hl m0 mo eL1 eL2 eL3 l1 l2 l3 t0 p1 p2 p3 p4 p5 q1 q2 q3 q4 nf ff q2' hA0
          go_wp2_with (first | (go_at_call 7; refine C1.out.mono ?_; rintro e w2 ⟨rfl, b1, f1⟩; replace b1 := Aside0.mk b1; replace f1 := Aside0.mk f1) | (go_at_call 8; refine (C3.out _ b2.out).mono ?_; rintro e w4 ⟨rfl, b3, f3⟩; replace b3 := Aside0.mk b3; replace f3 := Aside0.mk f3) | (go_at_call 8; refine (C2.out _ b1.out).mono ?_; rintro e w3 ⟨rfl, b2, f2⟩; replace b2 := Aside0.mk b2; replace f2 := Aside0.mk f2) | (go_at_call 9; refine (hits_calls _ _ _ _ b3.out r4.out).mono ?_; rintro e w5 ⟨rfl, ⟨n5, rfl⟩⟩) | (go_at_call 10; refine (misses_calls _ _ _ _ (blkd b3.out) r5.out).mono ?_; rintro e w6 ⟨rfl, ⟨n6, rfl⟩⟩) | (go_at_call 11; refine (lives_calls _).mono ?_; rintro e w7 ⟨rfl, b7⟩; replace b7 := Aside0.mk b7))
          go_returns
          refine ⟨rfl, ?_⟩
          have F1 : Far (fun x => x = w.heap.size + 1) ((w.alloc (.cells A 23 (0, 0))).alloc (.cells (ints zeros) 53 (0, 0))) w4 := HF.out.then_ (f1.out.then_ (f2.out.then_ f3.out))
          have F2 := Far.then_ (Far.alloc (Far.alloc (Far.refl (fun x => x = w.heap.size + 1) w) (.cells A 23 (0, 0))) (.cells (ints zeros) 53 (0, 0))) F1
          exact ((F2.drewN (n5 + n6)).then_ (Far.of_below b7.out)).below (Nat.le_refl _) (fun i hi => by omega)
        | succ k1 =>
          have hi : i < 16 := by have := HK.out; omega
          have d1 : decide ((i : Int) < 16) = true := decide_eq_true (by omega)
          have d0 : decide (0 ≤ (i : Int)) = true := decide_eq_true (by omega)
          obtain ⟨x, hx⟩ : ∃ x, fs[i]? = some x := ⟨_, List.getElem?_eq_getElem (by have := hfs.out; omega)⟩
          have cx : wr.cell? ⟨w.heap.size, i, none⟩ = some (.int .u8 x) := by
            rw [blk_cell hA0, hA.out]
            simp [hx]
          have hxd : fs.getD i 0 = x := by simp [hx]
          have hfr := (HI.out.there i hi).2.1
          simp only [hxd] at hfr
          have N2 := Aside0.mk (findy (w.heap.size + 1) L (F + i) 4 wr HB.out HI.out.len (HI.out.found hF.out i hi) _ HI.out.hits _ hfr (wrap64 (wrap64 (F : Int) + (i : Int))) (by have := hF.out; unfold wrap64; omega))
          have HI' := HI.out.step
          have e1 : wrap64 ((i : Int) + 1) = ((i + 1 : Nat) : Int) := by unfold wrap64; omega
          rw [e1] at HI'
          replace HI' := Aside0.mk HI'
          replace e1 := Aside0.mk e1
          replace hx := Aside0.mk hx
          replace hA0 := Aside0.mk hA0
          replace hxd := Aside0.mk hxd
          replace hfr := Aside0.mk hfr
          go_wp2_with (go_at_call 8; refine N2.out.mono ?_; rintro e w2 ⟨rfl, b1, f1⟩; have hA2 := f1.blk hA0.out (by omega); have cx2 : w2.cell? ⟨w.heap.size, i, none⟩ = some (.int .u8 x) := (by rw [blk_cell hA2, hA.out]; simp [hx.out]); replace hA2 := Aside0.mk hA2; replace b1 := Aside0.mk b1; replace f1 := Aside0.mk f1)
          go_roundg k1
          case measure => have := HK.out; omega
          case rel => exact ⟨i + 1, _, by first | rfl | simp | (simp only [wrap64]; refine congrArg _ ?_; omega), ⟨by have := HK.out; omega⟩, HI', ⟨by rw [← e1.out]; exact b1.out⟩, ⟨HF.out.then_ f1.out⟩⟩
    | succ k1 =>
      have hi : i < 16 := by have := HK.out; omega
      have d1 : decide ((i : Int) < 16) = true := decide_eq_true (by omega)
      have d0 : decide (0 ≤ (i : Int)) = true := decide_eq_true (by omega)
      obtain ⟨x, hx⟩ : ∃ x, fs[i]? = some x := ⟨_, List.getElem?_eq_getElem (by have := hfs.out; omega)⟩
      have hA0 : wr.heap[w.heap.size]? = some (.cells A 23 (0, 0)) := by
        rw [HF.out.block w.heap.size (by simp; omega) (by omega)]
        exact blk_alloc (blk_new w _) _
      have cx : wr.cell? ⟨w.heap.size, i, none⟩ = some (.int .u8 x) := by
        rw [blk_cell hA0, hA.out]
        simp [hx]
      have hx256 := hb.out x (List.mem_of_getElem? hx)
      have hxd : fs.getD i 0 = x := by simp [hx]
      have r1 : 0 ≤ wrap64 (Int.tmod x 96) ∧ wrap64 (Int.tmod x 96) < 96 := by
        rw [Int.tmod_eq_emod_of_nonneg hx256.1]; unfold wrap64; omega
      have N2 := Aside0.mk (note2 (w.heap.size + 1) L (F + i) (wrap64 (Int.tmod x 96)) 1 4 5 wr HB.out HI.out.len (by decide +kernel) (by have := hF.out; omega) r1.1 r1.2 wr.heap.size rfl (wrap64 (wrap64 (F : Int) + (i : Int))) (by have := hF.out; unfold wrap64; omega))
      have HI' := HI.out.step hi
      simp only [hxd] at HI'
      replace HI' := Aside0.mk HI'
      replace hx := Aside0.mk hx
      replace hA0 := Aside0.mk hA0
      replace r1 := Aside0.mk r1
      replace hxd := Aside0.mk hxd
      replace hx256 := Aside0.mk hx256
      go_wp2_with (go_at_call 7; refine N2.out.mono ?_; rintro e w2 ⟨rfl, b1, f1⟩; replace b1 := Aside0.mk b1; replace f1 := Aside0.mk f1)
      go_roundg k1
      case measure => have := HK.out; omega
      case rel => exact ⟨i + 1, _, by first | rfl | simp | (simp only [wrap64]; refine congrArg _ ?_; omega), ⟨by have := HK.out; omega⟩, HI', b1, ⟨HF.out.then_ f1.out⟩⟩

end Go.Proofs.Ytfmkjdbhijeejaa.Hand
