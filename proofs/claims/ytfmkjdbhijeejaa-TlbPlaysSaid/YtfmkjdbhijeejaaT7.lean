/- TlbTrue, walked. -/
import Derived.Test.YtfmkjdbhijeejaaT6
import Derived.Test.YtfmkjdbhijeejaaOpens
namespace Go.Proofs.Ytfmkjdbhijeejaa.Hand
set_option linter.unusedVariables false
set_option linter.unusedSimpArgs false
open Go.RowKit Go.Proofs.Ytfmkjdbhijeejaa.R Go.Proofs.YtfmkjdbhijeejaaW.PrintWords Go.Proofs.YtfmkjdbhijeejaaW.PrintMore

theorem find_not (g : Nat) (L : List Int) (page use : Int) (w : World) (hb : w.heap[g]? = some (.cells (ints L) 53 (0, 0))) (hL : L.length = 50) (hf : ¬ (0 ≤ page ∧ findOk L page.toNat use)) (ms : Int) (hms : L[49]? = some ms) :
    Calls Try.prog 8 #[.pointer (some ⟨g, 0, none⟩), .int .i64 page, .int .i64 use] w fun e w' => e = .returned (.tuple #[.int .i64 0, .bool false]) ∧ w'.heap[g]? = some (.cells (ints (L.set 49 (wrap64 (ms + 1)))) 53 (0, 0)) ∧ Far (fun x => x = g) w w' := by
  by_cases h1 : ¬ (use = 1 ∨ use = 2 ∨ use = 4) ∨ page < 0 ∨ page ≥ 68719476736
  · exact find_no1 g L page use w hb h1 ms hms
  · have hu : use = 1 ∨ use = 2 ∨ use = 4 := by
      by_cases h : use = 1 ∨ use = 2 ∨ use = 4
      · exact h
      · exact absurd (.inl h) h1
    have hp : 0 ≤ page ∧ page < 68719476736 := by
      constructor
      · by_cases h : page < 0
        · exact absurd (.inr (.inl h)) h1
        · omega
      · by_cases h : page ≥ 68719476736
        · exact absurd (.inr (.inr h)) h1
        · omega
    exact findn g L page.toNat use w hb hL hu (by omega) (fun h => hf ⟨hp.1, h⟩) ms hms page (by omega)
theorem flush_lit (g : Nat) (L : List Int) (page : Int) (w : World) (hb : w.heap[g]? = some (.cells (ints L) 53 (0, 0))) (hL : L.length = 50) (gl : Nat) (hgl : gl = w.heap.size) :
    Calls Try.prog 13 #[.pointer (some ⟨g, 0, none⟩), .slice (some ⟨gl, 0, none⟩) 1 1] (w.alloc (.cells #[.int .i64 page] 3 (0, 0))) fun e w' => e = .returned (.int .i64 ((flushN L [page] : Nat) : Int)) ∧ w'.heap[g]? = some (.cells (ints (flushL L [page])) 53 (0, 0)) ∧ Far (fun x => x = g) w w' := by
  subst hgl
  have hg := blk_lt hb
  refine (flush_calls g L _ 1 [page] _ (blk_alloc hb _) hL (fun W' hW => ?_) (Nat.le_refl _) (by simp)).mono ?_
  · have h0 := lit_C w .i64 [page] #[.int .i64 page] 3 (0, 0) rfl (by simp)
    obtain ⟨h1, h2, h3⟩ := h0
    refine ⟨h1, h2, fun hp => ?_⟩
    obtain ⟨ad, e1, e2⟩ := h3 hp
    refine ⟨ad, e1, fun j p hj => ?_⟩
    obtain ⟨cs, c1, c2, c3⟩ := e2 j p hj
    refine ⟨cs, c1, c2, fun k u hk => ?_⟩
    have h5 := c3 k u hk
    have hbk : (ad.add (j * (Kd.int .i64).sz + k)).block = w.heap.size := by
      have : ad = ⟨w.heap.size, 0, none⟩ := (Option.some.inj e1).symm
      subst this
      unfold Addr.add
      split <;> rfl
    rw [← h5]
    exact World.cell?_of_block (hW.block _ (by rw [hbk]; simp) (by rw [hbk]; omega))
  · rintro e w' ⟨rfl, h, hf⟩
    exact ⟨rfl, h, (Far.alloc (Far.refl _ w) _).then_ hf⟩
theorem flushL_len (ps : List Int) : ∀ L : List Int, (flushL L ps).length = L.length := by
  induction ps with
  | nil => intro L; rfl
  | cons p r ih => intro L; simp only [flushL]; rw [ih, flush1_len]

theorem elem_at {W : World} {k : IntKind} {A : Option Addr} {xs : List Int} (hC : Kd.C (Kd.int k) W A xs.length xs) (j : Nat) (hj : j < xs.length) : ∃ ad, A = some ad ∧ W.cell? (ad.add j) = some (.int k xs[j]) := by
  obtain ⟨ad, cs, eA, hc1, hc2, hc3⟩ := hC.get_ 0 (j : Int) (by omega) (by omega)
  refine ⟨ad, eA, ?_⟩
  have hk : cs = [.int k xs[j]] := by
    have : xs.getD (j : Int).toNat 0 = xs[j] := by simp [hj]
    rw [this] at hc2
    exact hc2
  subst hk
  have := hc3 0 _ rfl
  simpa [Kd.int, Kd.scalar] using this

set_option maxHeartbeats 8000000 in
set_option maxRecDepth 100000 in
theorem true_calls (A : Option Addr) (c : Nat) (l : List S36) (page use : Int) (w : World) (hC : Kd.C k36 w A l.length l) (hc : l.length ≤ c) (hl : l.length < 18446744073709551616) :
    Calls Try.prog 4 #[.slice A l.length c, .int .i64 page, .int .i64 use] w fun e w' => e = .returned (.bool true) ∧ Below w.heap.size w w' := by
  obtain ⟨b, hg, hb⟩ := great_some l hl
  have G := Aside0.mk (gunnylaw34_great.calls 500 A c l b w hC hc hg)
  replace hC := Aside0.mk hC
  replace hl := Aside0.mk hl
  replace hc := Aside0.mk hc
  replace hb := Aside0.mk hb
  clear hg
  cases b with
  | true =>
    go_enter Try.func4, Try.ntmps4
    go_wp2_with (first | (go_at_call 12; refine G.out.mono ?_; rintro e w1 ⟨rfl, ⟨nd, rfl⟩⟩) | (go_at_call 11; refine (lives_calls _).mono ?_; rintro e w7 ⟨rfl, b7⟩; replace b7 := Aside0.mk b7))
    go_returns
    exact ⟨rfl, (pw_below_drewN (Below.refl _ w) nd).trans (b7.out)⟩
  | false =>
    have h100 := (hb.out rfl).1
    have hsz0 := Aside0.mk (hb.out rfl).2
    replace h100 := Aside0.mk h100
    go_enter Try.func4, Try.ntmps4
    go_wp2_with (first | (go_at_call 12; refine G.out.mono ?_; rintro e w1 ⟨rfl, ⟨nd, rfl⟩⟩) | (go_at_call 6; refine (new_calls _).mono ?_; rintro e w' ⟨rfl, rfl⟩))
    go_loopg [8, 9, 10] l.length (fun kq v8 v9 v10 w' => ∃ (fr : Int) (nt : Bool) (i : Nat) (L : List Int), v8 = .int .i64 fr ∧ v9 = .bool nt ∧ v10 = .int .i64 (i : Int) ∧ Aside0 (i + kq = l.length) ∧ Aside0 (InvT L page use fr nt) ∧ Aside0 (w'.heap[w.heap.size]? = some (.cells (ints L) 53 (0, 0))) ∧ Aside0 (Far (fun x => x = w.heap.size) w w'))
    case atStart =>
      refine ⟨-1, false, 0, zeros, rfl, rfl, rfl, ⟨by omega⟩, ⟨InvT.start page use false⟩, ⟨blk_new (w.drewN nd) _⟩, ⟨?_⟩⟩
      exact Far.alloc (Far.drewN (Far.refl _ w) nd) _
    case round =>
      obtain ⟨fr, nt, i, L, rfl, rfl, rfl, HK, HI, HB, HF⟩ := hrel
      cases gk with
      | zero =>
        obtain rfl : i = l.length := by have := HK.out; omega
        have d1 : decide (((l.length : Nat) : Int) < ((l.length : Nat) : Int)) = false := decide_eq_false (by omega)
        have hL := HI.out.len
        have m9 : ∀ (M : List Int), M.length = 50 → ∃ ms, M[49]? = some ms := fun M hM => ⟨_, List.getElem?_eq_getElem (by omega)⟩
        obtain ⟨ms, hms⟩ := m9 L hL
        obtain ⟨hs, hhs⟩ : ∃ hs, L[48]? = some hs := ⟨_, List.getElem?_eq_getElem (by omega)⟩
        have gone : ∀ M : List Int, M.length = 50 → ¬ (0 ≤ page ∧ findOk (flushL M [page]) page.toNat use) := by
          rintro M hM ⟨h0, h⟩
          have := flush_gone M hM page.toNat use
          rw [show ((page.toNat : Nat) : Int) = page by omega] at this
          exact this h
        by_cases hf : 0 ≤ page ∧ findOk L page.toNat use
        · have hk := HI.out.kept hf.2.1 hf.1 (by have := hf.2.2.1; omega) (by rw [hf.2.2.2.1]; refine congrArg some ?_; have := hf.1; omega)
          have hnt : nt = true := hk.2 hf.2.2.2.2
          subst hnt
          obtain ⟨L2, eL2⟩ : ∃ L2, L2 = L.set 48 (wrap64 (hs + 1)) := ⟨_, rfl⟩
          have l2 : L2.length = 50 := by rw [eL2]; simp [hL]
          obtain ⟨L3, eL3⟩ : ∃ L3, L3 = flushL L2 [page] := ⟨_, rfl⟩
          have l3 : L3.length = 50 := by rw [eL3, flushL_len]; exact l2
          obtain ⟨ms3, hms3⟩ := m9 L3 l3
          have C1 := findy w.heap.size L page.toNat use wr HB.out hL hf.2 hs hhs fr hk.1 page (by have := hf.1; omega)
          rw [← eL2] at C1
          have C2 := fun W (h : W.heap[w.heap.size]? = some (.cells (ints L2) 53 (0, 0))) => flush_lit w.heap.size L2 page W h l2
          rw [← eL3] at C2
          have C3 := fun W (h : W.heap[w.heap.size]? = some (.cells (ints L3) 53 (0, 0))) => find_not w.heap.size L3 page use W h l3 (by rw [eL3]; exact gone L2 l2) ms3 hms3
          replace C1 := Aside0.mk C1
          replace C2 := Aside0.mk C2
          replace C3 := Aside0.mk C3
          clear hf hk eL2 l2 eL3 l3 hms3 hms hhs gone m9 hL
          go_wp2_with (first | (go_at_call 8; refine (C3.out _ b2.out).mono ?_; rintro e w4 ⟨rfl, b3, f3⟩; replace b3 := Aside0.mk b3; replace f3 := Aside0.mk f3) | (go_at_call 8; refine C1.out.mono ?_; rintro e w2 ⟨rfl, b1, f1⟩; replace b1 := Aside0.mk b1; replace f1 := Aside0.mk f1) | (go_at_call 13; refine (C2.out _ b1.out _ rfl).mono ?_; rintro e w3 ⟨rfl, b2, f2⟩; replace b2 := Aside0.mk b2; replace f2 := Aside0.mk f2) | (go_at_call 11; refine (lives_calls _).mono ?_; rintro e w7 ⟨rfl, b7⟩; replace b7 := Aside0.mk b7))
          go_returns
          refine ⟨rfl, ?_⟩
          exact (HF.out.then_ (f1.out.then_ (f2.out.then_ (f3.out.then_ (Far.of_below b7.out))))).below (Nat.le_refl _) (fun i hi => by omega)
        · obtain ⟨L2, eL2⟩ : ∃ L2, L2 = L.set 49 (wrap64 (ms + 1)) := ⟨_, rfl⟩
          have l2 : L2.length = 50 := by rw [eL2]; simp [hL]
          obtain ⟨L3, eL3⟩ : ∃ L3, L3 = flushL L2 [page] := ⟨_, rfl⟩
          have l3 : L3.length = 50 := by rw [eL3, flushL_len]; exact l2
          obtain ⟨ms3, hms3⟩ := m9 L3 l3
          have C1 := find_not w.heap.size L page use wr HB.out hL hf ms hms
          rw [← eL2] at C1
          have C2 := fun W (h : W.heap[w.heap.size]? = some (.cells (ints L2) 53 (0, 0))) => flush_lit w.heap.size L2 page W h l2
          rw [← eL3] at C2
          have C3 := fun W (h : W.heap[w.heap.size]? = some (.cells (ints L3) 53 (0, 0))) => find_not w.heap.size L3 page use W h l3 (by rw [eL3]; exact gone L2 l2) ms3 hms3
          replace C1 := Aside0.mk C1
          replace C2 := Aside0.mk C2
          replace C3 := Aside0.mk C3
          clear hf eL2 l2 eL3 l3 hms3 hms hhs gone m9 hL
          go_wp2_with (first | (go_at_call 8; refine (C3.out _ b2.out).mono ?_; rintro e w4 ⟨rfl, b3, f3⟩; replace b3 := Aside0.mk b3; replace f3 := Aside0.mk f3) | (go_at_call 8; refine C1.out.mono ?_; rintro e w2 ⟨rfl, b1, f1⟩; replace b1 := Aside0.mk b1; replace f1 := Aside0.mk f1) | (go_at_call 13; refine (C2.out _ b1.out _ rfl).mono ?_; rintro e w3 ⟨rfl, b2, f2⟩; replace b2 := Aside0.mk b2; replace f2 := Aside0.mk f2) | (go_at_call 11; refine (lives_calls _).mono ?_; rintro e w7 ⟨rfl, b7⟩; replace b7 := Aside0.mk b7))
          go_returns
          refine ⟨rfl, ?_⟩
          exact (HF.out.then_ (f1.out.then_ (f2.out.then_ (f3.out.then_ (Far.of_below b7.out))))).below (Nat.le_refl _) (fun i hi => by omega)
      | succ k1 =>
        have hi : i < l.length := by have := HK.out; omega
        have d1 : decide ((i : Int) < ((l.length : Nat) : Int)) = true := decide_eq_true (by omega)
        have d0 : decide (0 ≤ (i : Int)) = true := decide_eq_true (by omega)
        have hq : (i : Int) < (l.length : Int) := by omega
        have e1 := Aside0.mk (w64s i (by have := h100.out; omega))
        obtain ⟨ad, A3, c3, A4, c4, eA, hcells, h3, hu, h4, hp⟩ := deed_at hC.out i hi
        obtain ⟨x, ex⟩ : ∃ x, l[i] = x := ⟨_, rfl⟩
        have hsz := hsz0.out i hi
        rw [ex] at hcells h3 hu h4 hp hsz
        subst eA
        have bel := fun {W : World} (h : Far (fun x => x = w.heap.size) w W) => h.below (Nat.le_refl w.heap.size) (fun i hi => by omega)
        obtain ⟨k0, k1', k2, k3, k4⟩ := hcells wr (bel HF.out)
        replace hcells := Aside0.mk hcells
        replace hu := Aside0.mk hu
        replace hp := Aside0.mk hp
        replace h3 := Aside0.mk h3
        replace h4 := Aside0.mk h4
        replace hi := Aside0.mk hi
        replace hsz := Aside0.mk hsz
        replace ex := Aside0.mk ex
        replace bel := Aside0.mk @bel
        have hadd : ∀ (k : Nat), (i * 5 : Nat) = i * 5 := fun _ => rfl
        clear hadd
        have hg := blk_lt HB.out
        have hB1 : (wr.alloc (.cells #[.int .i64 x.f0, .int .i64 x.f1, .int .i64 x.f2, .slice A3 x.f3.length c3, .slice A4 x.f4.length c4] 36 (0, 0))).heap[w.heap.size]? = some (.cells (ints L) 53 (0, 0)) := blk_alloc HB.out _
        have hD1 : (wr.alloc (.cells #[.int .i64 x.f0, .int .i64 x.f1, .int .i64 x.f2, .slice A3 x.f3.length c3, .slice A4 x.f4.length c4] 36 (0, 0))).heap[wr.heap.size]? = some (.cells #[.int .i64 x.f0, .int .i64 x.f1, .int .i64 x.f2, .slice A3 x.f3.length c3, .slice A4 x.f4.length c4] 36 (0, 0)) := blk_new wr _
        have hF1 : Far (fun x => x = w.heap.size) w (wr.alloc (.cells #[.int .i64 x.f0, .int .i64 x.f1, .int .i64 x.f2, .slice A3 x.f3.length c3, .slice A4 x.f4.length c4] 36 (0, 0))) := HF.out.alloc _
        replace hg := Aside0.mk hg
        go_upto_region 10 with fail
        obtain ⟨W1, hW1⟩ : ∃ W1, W1 = wr.alloc (.cells #[.int .i64 x.f0, .int .i64 x.f1, .int .i64 x.f2, .slice A3 x.f3.length c3, .slice A4 x.f4.length c4] 36 (0, 0)) := ⟨_, rfl⟩
        rw [← hW1] at hB1 hD1 hF1 ⊢
        obtain ⟨gd, egd⟩ : ∃ gd, gd = wr.heap.size := ⟨_, rfl⟩
        rw [← egd] at hD1 hg ⊢
        have dc0 := blk_cell hD1 0
        have dc1 := blk_cell hD1 1
        have dc2 := blk_cell hD1 2
        have dc3 := blk_cell hD1 3
        have dc4 := blk_cell hD1 4
        replace hB1 := Aside0.mk hB1
        replace hD1 := Aside0.mk hD1
        replace hF1 := Aside0.mk hF1
        replace hW1 := Aside0.mk hW1
        replace egd := Aside0.mk egd
        replace dc0 : W1.cell? ⟨gd, 0, none⟩ = some (.int .i64 x.f0) := dc0
        replace dc1 : W1.cell? ⟨gd, 1, none⟩ = some (.int .i64 x.f1) := dc1
        replace dc2 : W1.cell? ⟨gd, 2, none⟩ = some (.int .i64 x.f2) := dc2
        replace dc3 : W1.cell? ⟨gd, 3, none⟩ = some (.slice A3 x.f3.length c3) := dc3
        replace dc4 : W1.cell? ⟨gd, 4, none⟩ = some (.slice A4 x.f4.length c4) := dc4
        clear k0 k1' k2 k3 k4
        by_cases hk : x.f0 < 2
        · have dk : decide (x.f0 < 2) = true := decide_eq_true hk
          have dk4 : (x.f0 == 4) = false := by rw [beq_eq_false_iff_ne]; omega
          obtain ⟨⟨m, ok⟩, hm⟩ : ∃ mo, maskN x.f3 0 = mo := ⟨_, rfl⟩
          by_cases hok : ok = true ∧ 0 ≤ x.f1 ∧ x.f1 < 68719476736 ∧ 0 ≤ x.f2 ∧ x.f2 < 96
          · obtain ⟨rfl, hp0, hp1, hf0, hf1⟩ := hok
            obtain ⟨pn, hpn⟩ : ∃ pn : Nat, x.f1 = (pn : Int) := ⟨x.f1.toNat, by omega⟩
            have N := note_yes w.heap.size L pn x.f2 A3 c3 x.f3 m W1 hB1.out HI.out.len (hu.out W1 (bel.out hF1.out)) h3.out (by have := hsz.out.1; omega) hm (by omega) hf0 hf1
            rw [← hpn] at N
            replace N := Aside0.mk N
            replace hm := Aside0.mk hm
            clear hp0 hp1 hf0 hf1 hk
            by_cases hpp : x.f1 = page
            · have dp : (x.f1 == page) = true := beq_iff_eq.mpr hpp
              replace hpp : Aside0 ((pn : Int) = page) := ⟨by rw [← hpn]; exact hpp⟩
              replace hpn := Aside0.mk hpn
              by_cases hfr : x.f2 = fr
              · have dfr : (x.f2 == fr) = true := beq_iff_eq.mpr hfr
                have dfr' : (x.f2 != fr) = false := bne_eq_false_iff_eq.mpr hfr
                replace hfr := Aside0.mk hfr
                go_wp2_with (go_at_call 7; refine N.out.mono ?_; rintro e w2 ⟨rfl, b1, f1⟩; have hD2 := f1.blk hD1.out (by have := hg.out; omega); have fc0 : ∀ n, (w2.drewN n).cell? ⟨gd, 0, none⟩ = some (.int .i64 x.f0) := (fun n => blk_cell hD2 0); have fc1 : ∀ n, (w2.drewN n).cell? ⟨gd, 1, none⟩ = some (.int .i64 x.f1) := (fun n => blk_cell hD2 1); have fc2 : ∀ n, (w2.drewN n).cell? ⟨gd, 2, none⟩ = some (.int .i64 x.f2) := (fun n => blk_cell hD2 2); have fc3 : ∀ n, (w2.drewN n).cell? ⟨gd, 3, none⟩ = some (.slice A3 x.f3.length c3) := (fun n => blk_cell hD2 3); have gc0 := fc0 0; have gc1 := fc1 0; have gc2 := fc2 0; have gc3 := fc3 0; replace gc0 : w2.cell? ⟨gd, 0, none⟩ = some (.int .i64 x.f0) := gc0; replace gc1 : w2.cell? ⟨gd, 1, none⟩ = some (.int .i64 x.f1) := gc1; replace gc2 : w2.cell? ⟨gd, 2, none⟩ = some (.int .i64 x.f2) := gc2; replace gc3 : w2.cell? ⟨gd, 3, none⟩ = some (.slice A3 x.f3.length c3) := gc3; replace hD2 := Aside0.mk hD2; replace b1 := Aside0.mk b1; replace f1 := Aside0.mk f1)
                go_loopg [9, 12] x.f3.length (fun kq v9 v12 w' => ∃ (n' : Bool) (j : Nat), v9 = .bool n' ∧ v12 = .int .i64 (j : Int) ∧ Aside0 (j + kq = x.f3.length) ∧ Aside0 (n' = true ↔ nt = true ∨ use ∈ x.f3.take j) ∧ Drawn0 w2 w')
                case atStart => exact ⟨nt, 0, rfl, rfl, ⟨by omega⟩, ⟨by simp⟩, Drawn0.refl _⟩
                case round =>
                  obtain ⟨n', j, rfl, rfl, HJ, Hn, ⟨⟨nq, rfl⟩⟩⟩ := hrel
                  cases gk with
                  | zero =>
                    obtain rfl : j = x.f3.length := by have := HJ.out; omega
                    have d5 : decide (((x.f3.length : Nat) : Int) < ((x.f3.length : Nat) : Int)) = false := decide_eq_false (by omega)
                    have hn := Hn.out
                    rw [List.take_length] at hn
                    have I2 := HI.out.note pn x.f2 x.f3 m hm.out n' (fun _ h => hn.2 (h.elim (fun h => .inl h.2) .inr))
                    rw [if_pos hpp.out, if_pos hpp.out] at I2
                    replace I2 := Aside0.mk I2
                    clear hn
                    go_wp2
                    go_roundg k1
                    case measure => have := HK.out; omega
                    case rel => exact ⟨x.f2, n', i + 1, _, rfl, rfl, by first | rfl | exact congrArg (Value.int .i64) e1.out | simp, ⟨by have := HK.out; omega⟩, I2, ⟨blkd b1.out⟩, ⟨(hF1.out.then_ f1.out).drewN _⟩⟩
                  | succ k2 =>
                    have hj : j < x.f3.length := by have := HJ.out; omega
                    have d5 : decide ((j : Int) < ((x.f3.length : Nat) : Int)) = true := decide_eq_true (by omega)
                    have d6 : decide (0 ≤ (j : Int)) = true := decide_eq_true (by omega)
                    have hjq : (j : Int) < (x.f3.length : Int) := by omega
                    have e5 := Aside0.mk (w64s j (by have := hsz.out.1; omega))
                    obtain ⟨ad4, eA4, hc4⟩ := elem_at (hu.out w2 (bel.out (hF1.out.then_ f1.out))) j hj
                    subst eA4
                    obtain ⟨y, ey⟩ : ∃ y, x.f3[j] = y := ⟨_, rfl⟩
                    rw [ey] at hc4
                    have hc4' : ∀ n, (w2.drewN n).cell? (ad4.add j) = some (.int .i64 y) := fun n => hc4
                    have memS : use ∈ x.f3.take (j + 1) ↔ use ∈ x.f3.take j ∨ use = y := by rw [List.take_succ_eq_append_getElem hj, ey]; simp
                    replace memS := Aside0.mk memS
                    replace hj := Aside0.mk hj
                    replace ey := Aside0.mk ey
                    cases n' with
                    | true =>
                      go_wp2
                      go_roundg k2
                      case measure => have := HJ.out; omega
                      case rel => exact ⟨true, j + 1, rfl, by first | rfl | exact congrArg (Value.int .i64) e5.out | simp, ⟨by have := HJ.out; omega⟩, ⟨by have h := Hn.out.1 (by first | exact trivial | exact rfl); rw [memS.out]; exact ⟨fun _ => h.elim .inl (fun h => .inr (.inl h)), fun _ => rfl⟩⟩, ⟨⟨_, rfl⟩⟩⟩
                    | false =>
                      by_cases hy : y = use
                      · have dy : (y == use) = true := beq_iff_eq.mpr hy
                        replace hy := Aside0.mk hy
                        go_wp2
                        go_roundg k2
                        case measure => have := HJ.out; omega
                        case rel => exact ⟨true, j + 1, rfl, by first | rfl | exact congrArg (Value.int .i64) e5.out | simp, ⟨by have := HJ.out; omega⟩, ⟨by rw [memS.out]; exact ⟨fun _ => .inr (.inr hy.out.symm), fun _ => rfl⟩⟩, ⟨⟨_, rfl⟩⟩⟩
                      · have dy : (y == use) = false := beq_eq_false_iff_ne.mpr hy
                        replace hy := Aside0.mk hy
                        go_wp2
                        go_roundg k2
                        case measure => have := HJ.out; omega
                        case rel => exact ⟨false, j + 1, rfl, by first | rfl | exact congrArg (Value.int .i64) e5.out | simp, ⟨by have := HJ.out; omega⟩, ⟨by rw [memS.out]; exact ⟨fun h => absurd h (by decide), fun h => h.elim (fun h => Hn.out.2 (.inl h)) (fun h => h.elim (fun h => Hn.out.2 (.inr h)) (fun h => absurd h.symm hy.out))⟩⟩, ⟨⟨_, rfl⟩⟩⟩
              · have dfr : (x.f2 == fr) = false := beq_eq_false_iff_ne.mpr hfr
                have dfr' : (x.f2 != fr) = true := bne_iff_ne.mpr hfr
                replace hfr := Aside0.mk hfr
                go_wp2_with (go_at_call 7; refine N.out.mono ?_; rintro e w2 ⟨rfl, b1, f1⟩; have hD2 := f1.blk hD1.out (by have := hg.out; omega); have fc0 : ∀ n, (w2.drewN n).cell? ⟨gd, 0, none⟩ = some (.int .i64 x.f0) := (fun n => blk_cell hD2 0); have fc1 : ∀ n, (w2.drewN n).cell? ⟨gd, 1, none⟩ = some (.int .i64 x.f1) := (fun n => blk_cell hD2 1); have fc2 : ∀ n, (w2.drewN n).cell? ⟨gd, 2, none⟩ = some (.int .i64 x.f2) := (fun n => blk_cell hD2 2); have fc3 : ∀ n, (w2.drewN n).cell? ⟨gd, 3, none⟩ = some (.slice A3 x.f3.length c3) := (fun n => blk_cell hD2 3); have gc0 := fc0 0; have gc1 := fc1 0; have gc2 := fc2 0; have gc3 := fc3 0; replace gc0 : w2.cell? ⟨gd, 0, none⟩ = some (.int .i64 x.f0) := gc0; replace gc1 : w2.cell? ⟨gd, 1, none⟩ = some (.int .i64 x.f1) := gc1; replace gc2 : w2.cell? ⟨gd, 2, none⟩ = some (.int .i64 x.f2) := gc2; replace gc3 : w2.cell? ⟨gd, 3, none⟩ = some (.slice A3 x.f3.length c3) := gc3; replace hD2 := Aside0.mk hD2; replace b1 := Aside0.mk b1; replace f1 := Aside0.mk f1)
                go_loopg [9, 12] x.f3.length (fun kq v9 v12 w' => ∃ (n' : Bool) (j : Nat), v9 = .bool n' ∧ v12 = .int .i64 (j : Int) ∧ Aside0 (j + kq = x.f3.length) ∧ Aside0 (n' = true ↔ false = true ∨ use ∈ x.f3.take j) ∧ Drawn0 w2 w')
                case atStart => exact ⟨false, 0, rfl, rfl, ⟨by omega⟩, ⟨by simp⟩, Drawn0.refl _⟩
                case round =>
                  obtain ⟨n', j, rfl, rfl, HJ, Hn, ⟨⟨nq, rfl⟩⟩⟩ := hrel
                  cases gk with
                  | zero =>
                    obtain rfl : j = x.f3.length := by have := HJ.out; omega
                    have d5 : decide (((x.f3.length : Nat) : Int) < ((x.f3.length : Nat) : Int)) = false := decide_eq_false (by omega)
                    have hn := Hn.out
                    rw [List.take_length] at hn
                    have I2 := HI.out.note pn x.f2 x.f3 m hm.out n' (fun _ h => hn.2 (h.elim (fun h => absurd h.1 hfr.out) .inr))
                    rw [if_pos hpp.out, if_pos hpp.out] at I2
                    replace I2 := Aside0.mk I2
                    clear hn
                    go_wp2
                    go_roundg k1
                    case measure => have := HK.out; omega
                    case rel => exact ⟨x.f2, n', i + 1, _, rfl, rfl, by first | rfl | exact congrArg (Value.int .i64) e1.out | simp, ⟨by have := HK.out; omega⟩, I2, ⟨blkd b1.out⟩, ⟨(hF1.out.then_ f1.out).drewN _⟩⟩
                  | succ k2 =>
                    have hj : j < x.f3.length := by have := HJ.out; omega
                    have d5 : decide ((j : Int) < ((x.f3.length : Nat) : Int)) = true := decide_eq_true (by omega)
                    have d6 : decide (0 ≤ (j : Int)) = true := decide_eq_true (by omega)
                    have hjq : (j : Int) < (x.f3.length : Int) := by omega
                    have e5 := Aside0.mk (w64s j (by have := hsz.out.1; omega))
                    obtain ⟨ad4, eA4, hc4⟩ := elem_at (hu.out w2 (bel.out (hF1.out.then_ f1.out))) j hj
                    subst eA4
                    obtain ⟨y, ey⟩ : ∃ y, x.f3[j] = y := ⟨_, rfl⟩
                    rw [ey] at hc4
                    have hc4' : ∀ n, (w2.drewN n).cell? (ad4.add j) = some (.int .i64 y) := fun n => hc4
                    have memS : use ∈ x.f3.take (j + 1) ↔ use ∈ x.f3.take j ∨ use = y := by rw [List.take_succ_eq_append_getElem hj, ey]; simp
                    replace memS := Aside0.mk memS
                    replace hj := Aside0.mk hj
                    replace ey := Aside0.mk ey
                    cases n' with
                    | true =>
                      go_wp2
                      go_roundg k2
                      case measure => have := HJ.out; omega
                      case rel => exact ⟨true, j + 1, rfl, by first | rfl | exact congrArg (Value.int .i64) e5.out | simp, ⟨by have := HJ.out; omega⟩, ⟨by have h := Hn.out.1 (by first | exact trivial | exact rfl); rw [memS.out]; exact ⟨fun _ => h.elim .inl (fun h => .inr (.inl h)), fun _ => rfl⟩⟩, ⟨⟨_, rfl⟩⟩⟩
                    | false =>
                      by_cases hy : y = use
                      · have dy : (y == use) = true := beq_iff_eq.mpr hy
                        replace hy := Aside0.mk hy
                        go_wp2
                        go_roundg k2
                        case measure => have := HJ.out; omega
                        case rel => exact ⟨true, j + 1, rfl, by first | rfl | exact congrArg (Value.int .i64) e5.out | simp, ⟨by have := HJ.out; omega⟩, ⟨by rw [memS.out]; exact ⟨fun _ => .inr (.inr hy.out.symm), fun _ => rfl⟩⟩, ⟨⟨_, rfl⟩⟩⟩
                      · have dy : (y == use) = false := beq_eq_false_iff_ne.mpr hy
                        replace hy := Aside0.mk hy
                        go_wp2
                        go_roundg k2
                        case measure => have := HJ.out; omega
                        case rel => exact ⟨false, j + 1, rfl, by first | rfl | exact congrArg (Value.int .i64) e5.out | simp, ⟨by have := HJ.out; omega⟩, ⟨by rw [memS.out]; exact ⟨fun h => absurd h (by decide), fun h => h.elim (fun h => Hn.out.2 (.inl h)) (fun h => h.elim (fun h => Hn.out.2 (.inr h)) (fun h => absurd h.symm hy.out))⟩⟩, ⟨⟨_, rfl⟩⟩⟩
            · have dp : (x.f1 == page) = false := beq_eq_false_iff_ne.mpr hpp
              have hpp' : ¬ ((pn : Int) = page) := by rw [← hpn]; exact hpp
              have I2 := HI.out.note pn x.f2 x.f3 m hm.out nt (fun h => absurd h hpp')
              rw [if_neg hpp', if_neg hpp'] at I2
              replace I2 := Aside0.mk I2
              replace hpp := Aside0.mk hpp
              replace hpp' := Aside0.mk hpp'
              replace hpn := Aside0.mk hpn
              go_wp2_with (go_at_call 7; refine N.out.mono ?_; rintro e w2 ⟨rfl, b1, f1⟩; have hD2 := f1.blk hD1.out (by have := hg.out; omega); have gc0 : w2.cell? ⟨gd, 0, none⟩ = some (.int .i64 x.f0) := blk_cell hD2 0; have gc1 : w2.cell? ⟨gd, 1, none⟩ = some (.int .i64 x.f1) := blk_cell hD2 1; replace hD2 := Aside0.mk hD2; replace b1 := Aside0.mk b1; replace f1 := Aside0.mk f1)
              go_roundg k1
              case measure => have := HK.out; omega
              case rel => exact ⟨fr, nt, i + 1, _, rfl, rfl, by first | rfl | exact congrArg (Value.int .i64) e1.out | simp, ⟨by have := HK.out; omega⟩, I2, b1, ⟨hF1.out.then_ f1.out⟩⟩
          · have hbad : ok = false ∨ x.f1 < 0 ∨ x.f1 ≥ 68719476736 ∨ x.f2 < 0 ∨ x.f2 ≥ 96 := by
              cases ok with
              | false => exact .inl rfl
              | true =>
                have h2 : ¬ (0 ≤ x.f1 ∧ x.f1 < 68719476736 ∧ 0 ≤ x.f2 ∧ x.f2 < 96) := fun h => hok ⟨rfl, h⟩
                right; omega
            have N := Aside0.mk (note_no w.heap.size x.f1 x.f2 A3 c3 x.f3 m ok W1 (hu.out W1 (bel.out hF1.out)) h3.out (by have := hsz.out.1; omega) hm hbad)
            clear hbad hok hm hk
            have dc0' : ∀ n, (W1.drewN n).cell? ⟨gd, 0, none⟩ = some (.int .i64 x.f0) := fun n => dc0
            go_wp2_with (go_at_call 7; refine N.out.mono ?_; rintro e w2 ⟨rfl, ⟨n2, rfl⟩⟩)
            go_roundg k1
            case measure => have := HK.out; omega
            case rel => exact ⟨fr, nt, i + 1, L, rfl, rfl, by first | rfl | exact congrArg (Value.int .i64) e1.out | simp, ⟨by have := HK.out; omega⟩, HI, ⟨blkd hB1.out⟩, ⟨hF1.out.drewN _⟩⟩
        · have dk : decide (x.f0 < 2) = false := decide_eq_false hk
          by_cases hk4 : x.f0 = 4
          · have dk4 : (x.f0 == 4) = true := by rw [hk4]; rfl
            have N := Aside0.mk (flush_calls w.heap.size L A4 c4 x.f4 W1 hB1.out HI.out.len (fun W' hW => hp.out W' (bel.out (hF1.out.then_ hW))) h4.out (by have := hsz.out.2; omega))
            have IF := Aside0.mk (HI.out.flush x.f4)
            clear hk hk4
            go_wp2_with (go_at_call 13; refine N.out.mono ?_; rintro e w2 ⟨rfl, b1, f1⟩; have hD2 := f1.blk hD1.out (by have := hg.out; omega); have fc4 : ∀ n, (w2.drewN n).cell? ⟨gd, 4, none⟩ = some (.slice A4 x.f4.length c4) := (fun n => blk_cell hD2 4); replace hD2 := Aside0.mk hD2; replace b1 := Aside0.mk b1; replace f1 := Aside0.mk f1)
            go_loopg [8, 9, 13] x.f4.length (fun kq v8 v9 v13 w' => ∃ (f' : Int) (n' : Bool) (j : Nat), v8 = .int .i64 f' ∧ v9 = .bool n' ∧ v13 = .int .i64 (j : Int) ∧ Aside0 (j + kq = x.f4.length) ∧ Aside0 (f' = if page ∈ x.f4.take j then -1 else fr) ∧ Aside0 (n' = if page ∈ x.f4.take j then false else nt) ∧ Drawn0 w2 w')
            case atStart => exact ⟨fr, nt, 0, rfl, rfl, rfl, ⟨by omega⟩, ⟨by simp⟩, ⟨by simp⟩, Drawn0.refl _⟩
            case round =>
              obtain ⟨f', n', j, rfl, rfl, rfl, HJ, Hf, Hn, ⟨⟨nq, rfl⟩⟩⟩ := hrel
              cases gk with
              | zero =>
                obtain rfl : j = x.f4.length := by have := HJ.out; omega
                have d5 : decide (((x.f4.length : Nat) : Int) < ((x.f4.length : Nat) : Int)) = false := decide_eq_false (by omega)
                have hf := Hf.out
                have hn := Hn.out
                rw [List.take_length] at hf hn
                have I2 := IF.out
                rw [← hf, ← hn] at I2
                replace I2 := Aside0.mk I2
                clear hf hn
                go_wp2
                go_roundg k1
                case measure => have := HK.out; omega
                case rel => exact ⟨f', n', i + 1, _, rfl, rfl, by first | rfl | exact congrArg (Value.int .i64) e1.out | simp, ⟨by have := HK.out; omega⟩, I2, ⟨blkd b1.out⟩, ⟨(hF1.out.then_ f1.out).drewN _⟩⟩
              | succ k2 =>
                have hj : j < x.f4.length := by have := HJ.out; omega
                have d5 : decide ((j : Int) < ((x.f4.length : Nat) : Int)) = true := decide_eq_true (by omega)
                have d6 : decide (0 ≤ (j : Int)) = true := decide_eq_true (by omega)
                have hjq : (j : Int) < (x.f4.length : Int) := by omega
                have e5 := Aside0.mk (w64s j (by have := hsz.out.2; omega))
                obtain ⟨ad4, eA4, hc4⟩ := elem_at (hp.out w2 (bel.out (hF1.out.then_ f1.out))) j hj
                subst eA4
                obtain ⟨y, ey⟩ : ∃ y, x.f4[j] = y := ⟨_, rfl⟩
                rw [ey] at hc4
                have hc4' : ∀ n, (w2.drewN n).cell? (ad4.add j) = some (.int .i64 y) := fun n => hc4
                have htake : x.f4.take (j + 1) = x.f4.take j ++ [y] := by rw [List.take_succ_eq_append_getElem hj, ey]
                have hf := Hf.out
                have hn := Hn.out
                have memS : page ∈ x.f4.take (j + 1) ↔ page ∈ x.f4.take j ∨ page = y := by rw [htake]; simp
                replace memS := Aside0.mk memS
                clear htake hf hn
                replace hj := Aside0.mk hj
                replace ey := Aside0.mk ey
                by_cases hy : y = page
                · have dy : (y == page) = true := beq_iff_eq.mpr hy
                  replace hy := Aside0.mk hy
                  go_wp2
                  go_roundg k2
                  case measure => have := HJ.out; omega
                  case rel => exact ⟨-1, false, j + 1, rfl, rfl, by first | rfl | exact congrArg (Value.int .i64) e5.out | simp, ⟨by have := HJ.out; omega⟩, ⟨by rw [if_pos (memS.out.2 (.inr hy.out.symm))]⟩, ⟨by rw [if_pos (memS.out.2 (.inr hy.out.symm))]⟩, ⟨⟨_, rfl⟩⟩⟩
                · have dy : (y == page) = false := beq_eq_false_iff_ne.mpr hy
                  have same : page ∈ x.f4.take (j + 1) ↔ page ∈ x.f4.take j := by
                    rw [memS.out]
                    constructor
                    · rintro (h | h)
                      · exact h
                      · exact absurd h.symm hy
                    · exact .inl
                  replace same := Aside0.mk same
                  replace hy := Aside0.mk hy
                  go_wp2
                  go_roundg k2
                  case measure => have := HJ.out; omega
                  case rel => exact ⟨f', n', j + 1, rfl, rfl, by first | rfl | exact congrArg (Value.int .i64) e5.out | simp, ⟨by have := HJ.out; omega⟩, ⟨by simp only [same.out]; exact Hf.out⟩, ⟨by simp only [same.out]; exact Hn.out⟩, ⟨⟨_, rfl⟩⟩⟩
          · have dk4 : (x.f0 == 4) = false := beq_eq_false_iff_ne.mpr hk4
            clear hk hk4
            go_wp2
            go_roundg k1
            case measure => have := HK.out; omega
            case rel => exact ⟨fr, nt, i + 1, L, rfl, rfl, by first | rfl | exact congrArg (Value.int .i64) e1.out | simp, ⟨by have := HK.out; omega⟩, HI, hB1, hF1⟩

theorem true_walk (W : World) (A : Option Addr) (c : Nat) (l : List S36) (hC : Kd.C k36 W A l.length l) (hle : l.length ≤ c) (hm : l.length ≤ maxLen) (hR : ∀ x ∈ l, True) (page : Int) (wp : (Lit.int .i64 page).wf = true) (use : Int) (wu : (Lit.int .i64 use).wf = true) :
    Calls Try.prog 4 #[.slice A l.length c, .int .i64 page, .int .i64 use] W fun e w' => e = .returned (.bool true) ∧ Below W.heap.size W w' :=
  true_calls A c l page use W hC hle (Nat.lt_of_le_of_lt hm (by decide))

/-- How a deed that came in is read. -/
theorem o36 : Opens.Opens Try.prog k36 36 (fun _ => True) := by
  have hs := Opens.opens_slice Try.underlying34 (by kernel_rfl) (Opens.opens_int Try.underlying3 (by kernel_rfl))
  have h := Opens.opens_iso (f := fun x : S36 => (x.f0, x.f1, x.f2, x.f3, x.f4)) (fun a => (⟨a.1, a.2.1, a.2.2.1, a.2.2.2.1, a.2.2.2.2⟩ : S36)) (fun a => rfl)
    (Opens.opens_struct Try.underlying36 (by kernel_rfl) (Opens.opensF_cons rfl (Opens.opens_int Try.underlying3 (by kernel_rfl)) (Opens.opensF_cons rfl (Opens.opens_int Try.underlying3 (by kernel_rfl)) (Opens.opensF_cons rfl (Opens.opens_int Try.underlying3 (by kernel_rfl)) (Opens.opensF_cons rfl hs (Opens.opensF_one rfl hs))))))
  exact ⟨h.1, fun enc w base spare held fuel cs x hx => by
    obtain ⟨y, h1, _⟩ := h.2 enc w base spare held fuel cs x hx
    exact ⟨y, h1, trivial⟩⟩

end Go.Proofs.Ytfmkjdbhijeejaa.Hand
