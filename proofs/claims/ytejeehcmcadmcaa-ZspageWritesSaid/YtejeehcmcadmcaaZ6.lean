/- ZspagePieces, walked. -/
import Derived.Test.YtejeehcmcadmcaaZ4
import Derived.Test.YtejeehcmcadmcaaZ5
import Derived.Handy
namespace Go.Proofs.Ytejeehcmcadmcaa.Hand
set_option linter.unusedVariables false
set_option linter.unusedSimpArgs false
open Go.RowKit Go.Proofs.Ytejeehcmcadmcaa.R Go.Proofs.YtejeehcmcadmcaaW.PrintWords Go.Proofs.YtejeehcmcadmcaaW.PrintLast Go.Proofs.YtejeehcmcadmcaaW.PrintMore

set_option maxHeartbeats 8000000 in
set_option maxRecDepth 100000 in
theorem mk_calls (a0 a1 a2 a3 : Int) (w : World) :
    Calls Try.prog 17 #[.int .i64 a0, .int .i64 a1, .int .i64 a2, .int .i64 a3] w fun e w' => ∃ b0 b1 b2 b3 : Nat, e = .returned (.func (.func 24) #[] #[.pointer (some ⟨b0, 0, none⟩), .pointer (some ⟨b1, 0, none⟩), .pointer (some ⟨b2, 0, none⟩), .pointer (some ⟨b3, 0, none⟩)]) ∧
      w'.heap[b0]? = some (.cells #[.int .i64 a0] 3 (0, 0)) ∧ w'.heap[b1]? = some (.cells #[.int .i64 a1] 3 (0, 0)) ∧ w'.heap[b2]? = some (.cells #[.int .i64 a2] 3 (0, 0)) ∧ w'.heap[b3]? = some (.cells #[.int .i64 a3] 3 (0, 0)) ∧ w.heap.size ≤ b3 ∧ Below w.heap.size w w' := by
  have hmf : ∀ (fn : Fn) (first cap : Array Value) (w : World), (Instr.makeFunc fn first cap).run Try.prog w = .ok (.func fn first cap) w := fun _ _ _ _ => rfl
  obtain ⟨w1, hw1⟩ : ∃ w1, w.alloc (.cells #[.int .i64 a0] 3 (0, 0)) = w1 := ⟨_, rfl⟩
  obtain ⟨w2, hw2⟩ : ∃ w2, w1.alloc (.cells #[.int .i64 a1] 3 (0, 0)) = w2 := ⟨_, rfl⟩
  obtain ⟨w3, hw3⟩ : ∃ w3, w2.alloc (.cells #[.int .i64 a2] 3 (0, 0)) = w3 := ⟨_, rfl⟩
  obtain ⟨w4, hw4⟩ : ∃ w4, w3.alloc (.cells #[.int .i64 a3] 3 (0, 0)) = w4 := ⟨_, rfl⟩
  have k0 := blk_new w (.cells #[.int .i64 a0] 3 (0, 0))
  rw [hw1] at k0
  have k1 := blk_new w1 (.cells #[.int .i64 a1] 3 (0, 0))
  rw [hw2] at k1
  have k2 := blk_new w2 (.cells #[.int .i64 a2] 3 (0, 0))
  rw [hw3] at k2
  have k3 := blk_new w3 (.cells #[.int .i64 a3] 3 (0, 0))
  rw [hw4] at k3
  have m1 : Below w1.heap.size w1 w2 := by rw [← hw2]; exact (Below.refl _ _).alloc (Nat.le_refl _) _
  have m2 : Below w2.heap.size w2 w3 := by rw [← hw3]; exact (Below.refl _ _).alloc (Nat.le_refl _) _
  have m3 : Below w3.heap.size w3 w4 := by rw [← hw4]; exact (Below.refl _ _).alloc (Nat.le_refl _) _
  have m0 : Below w.heap.size w w1 := by rw [← hw1]; exact (Below.refl _ _).alloc (Nat.le_refl _) _
  have r0 := blk_below (blk_below (blk_below k0 m1) m2) m3
  have r1 := blk_below (blk_below k1 m2) m3
  have r2 := blk_below k2 m3
  have s1 := m0.size
  have s2 := m1.size
  have s3 := m2.size
  have hb : Below w.heap.size w w4 := ((m0.trans (Below_low m1 s1)).trans (Below_low m2 (by omega))).trans (Below_low m3 (by omega))
  have hs3 : w.heap.size ≤ w3.heap.size := by omega
  have z1 : w1.heap.size = w.heap.size + 1 := by rw [← hw1]; exact World.size_alloc _ _
  have z2 : w2.heap.size = w1.heap.size + 1 := by rw [← hw2]; exact World.size_alloc _ _
  have z3 : w3.heap.size = w2.heap.size + 1 := by rw [← hw3]; exact World.size_alloc _ _
  rw [z3, z2, z1] at k3 hs3
  rw [z2, z1] at r2
  rw [z1] at r1
  clear z1 z2 z3
  replace hb := Aside0.mk hb
  replace hs3 := Aside0.mk hs3
  replace r0 := Aside0.mk r0
  replace r1 := Aside0.mk r1
  replace r2 := Aside0.mk r2
  replace k3 := Aside0.mk k3
  clear k0 k1 k2 m0 m1 m2 m3 s1 s2 s3
  replace hw1 := Aside0.mk hw1
  replace hw2 := Aside0.mk hw2
  replace hw3 := Aside0.mk hw3
  replace hw4 := Aside0.mk hw4
  go_enter Try.func17, Try.ntmps17
  go_upto_region 1 with (fail)
  rw [hw1.out, hw2.out, hw3.out, hw4.out]
  go_wp2
  go_returns
  exact ⟨_, _, _, _, rfl, r0.out, r1.out, r2.out, k3.out, hs3.out, hb.out⟩

theorem appendSeq_calls (sb nb fb mb : Nat) (size n from_ many : Nat) (w : World)
    (hs : w.heap[sb]? = some (.cells #[.int .i64 (size : Int)] 3 (0, 0))) (hn : w.heap[nb]? = some (.cells #[.int .i64 (n : Int)] 3 (0, 0)))
    (hf : w.heap[fb]? = some (.cells #[.int .i64 (from_ : Int)] 3 (0, 0))) (hm : w.heap[mb]? = some (.cells #[.int .i64 (many : Int)] 3 (0, 0)))
    (b1 : size ≤ 4096) (b2 : n ≤ 255) (b3 : from_ ≤ 4096) (b4 : many ≤ 4096) :
    Calls Try.prog 23 #[.slice none 0 0, .func (.func 24) #[] #[.pointer (some ⟨sb, 0, none⟩), .pointer (some ⟨nb, 0, none⟩), .pointer (some ⟨fb, 0, none⟩), .pointer (some ⟨mb, 0, none⟩)]] w fun e w' =>
      ∃ v, e = .returned v ∧ Kd.R k28 29 w' w.heap.size (fun _ => True) v (pcs (size * n + from_) many) ∧ Far (fun i => i = mb) w w' :=
  callsIn_wide.1 (appendSeq_in sb nb fb mb 0 size n from_ many w hs hn hf hm b1 b2 b3 b4)
set_option maxHeartbeats 8000000 in
set_option maxRecDepth 100000 in
theorem collect_calls (sb nb fb mb : Nat) (size n from_ many : Nat) (w : World)
    (hs : w.heap[sb]? = some (.cells #[.int .i64 (size : Int)] 3 (0, 0))) (hn : w.heap[nb]? = some (.cells #[.int .i64 (n : Int)] 3 (0, 0)))
    (hf : w.heap[fb]? = some (.cells #[.int .i64 (from_ : Int)] 3 (0, 0))) (hm : w.heap[mb]? = some (.cells #[.int .i64 (many : Int)] 3 (0, 0)))
    (b1 : size ≤ 4096) (b2 : n ≤ 255) (b3 : from_ ≤ 4096) (b4 : many ≤ 4096) :
    Calls Try.prog 16 #[.func (.func 24) #[] #[.pointer (some ⟨sb, 0, none⟩), .pointer (some ⟨nb, 0, none⟩), .pointer (some ⟨fb, 0, none⟩), .pointer (some ⟨mb, 0, none⟩)]] w fun e w' =>
      ∃ v, e = .returned v ∧ Kd.R k28 29 w' w.heap.size (fun _ => True) v (pcs (size * n + from_) many) ∧ Far (fun i => i = mb) w w' := by
  have h := Aside0.mk (appendSeq_calls sb nb fb mb size n from_ many w hs hn hf hm b1 b2 b3 b4)
  clear hs hn hf hm
  go_enter Try.func16, Try.ntmps16
  go_wp2_with (go_at_call 23; refine h.out.mono ?_; rintro e w2 ⟨v, rfl, hR, hF⟩; obtain ⟨A, c, e⟩ := Kd.R_slice hR; generalize (pcs (size * n + from_) many).length = len at e; subst e; replace hR := Aside0.mk hR; replace hF := Aside0.mk hF)
  go_returns
  exact ⟨_, rfl, hR.out, hF.out⟩
set_option maxHeartbeats 8000000 in
set_option maxRecDepth 100000 in
theorem pieces_calls (a0 a1 a2 a3 : Int) (w : World) (b2 : -9223372036854775808 ≤ a2) (b2' : a2 < 9223372036854775808) :
    Calls Try.prog 6 #[.int .i64 a0, .int .i64 a1, .int .i64 a2, .int .i64 a3] w fun e w' => ∃ v, e = .returned v ∧ Kd.R k28 29 w' w.heap.size (fun _ => True) v (want a0 a1 a2 a3) ∧ Below w.heap.size w w' := by
  have hmf : ∀ (fn : Fn) (first cap : Array Value) (w : World), (Instr.makeFunc fn first cap).run Try.prog w = .ok (.func fn first cap) w := fun _ _ _ _ => rfl
  have hmay := fun W => zspage_may.calls a0 a1 a2 a3 (mayB a0 a1 a2 a3) W (may_eq a0 a1 a2 a3 b2 b2')
  unfold want
  cases hm : mayB a0 a1 a2 a3 with
  | false =>
    rw [hm] at hmay
    go_enter Try.func6, Try.ntmps6
    go_wp2_with (go_at_call 15; refine (hmay _).mono ?_; rintro e w2 ⟨rfl, ⟨nd, rfl⟩⟩)
    go_returns
    exact ⟨_, rfl, Kd.R_nil _ _ _ _ _, pw_below_drewN (Below.refl _ _) _⟩
  | true =>
    rw [hm] at hmay
    have h := of_decide_eq_true hm
    obtain ⟨s, rfl⟩ : ∃ s : Nat, a0 = (s : Int) := ⟨a0.toNat, by omega⟩
    obtain ⟨n, rfl⟩ : ∃ s : Nat, a1 = (s : Int) := ⟨a1.toNat, by omega⟩
    obtain ⟨f, rfl⟩ : ∃ s : Nat, a2 = (s : Int) := ⟨a2.toNat, by omega⟩
    obtain ⟨m, rfl⟩ : ∃ s : Nat, a3 = (s : Int) := ⟨a3.toNat, by omega⟩
    rw [if_pos rfl, show ((s : Int) * (n : Int) + (f : Int)).toNat = s * n + f by rw [← Int.natCast_mul]; omega, Int.toNat_natCast]
    replace h := Aside0.mk h
    clear hm b2 b2'
    go_enter Try.func6, Try.ntmps6
    go_upto_region 3 with (go_at_call 15; refine (hmay _).mono ?_; rintro e w2 ⟨rfl, hw2⟩)
    have hb2 := Aside0.mk hw2.below
    clear hmay hw2
    have hmk := Aside0.mk (mk_calls (s : Int) (n : Int) (f : Int) (m : Int) w2)
    go_wp2_with (first | (go_at_call 17; refine hmk.out.mono ?_; rintro e w3 ⟨b0, b1, b2, b3, rfl, k0, k1, k2, k3, k4, hb3⟩; have hco := Aside0.mk (collect_calls b0 b1 b2 b3 s n f m w3 k0 k1 k2 k3 (by have := h.out; omega) (by have := h.out; omega) (by have := h.out; omega) (by have := h.out; omega)); clear k0 k1 k2 k3; replace k4 := Aside0.mk k4; replace hb3 := Aside0.mk hb3) | (go_at_call 16; refine hco.out.mono ?_; rintro e w4 ⟨v, rfl, hR, hF⟩; obtain ⟨A, c, e⟩ := Kd.R_slice hR; generalize (pcs (s * n + f) m).length = len at e; subst e; replace hR := Aside0.mk hR; replace hF := Aside0.mk hF))
    go_returns
    have s2 := hb2.out.size
    have s3 := hb3.out.size
    have k4' := k4.out
    exact ⟨_, rfl, Kd.R_lower hR.out (by omega), (hb2.out.trans (Below_low hb3.out s2)).trans (hF.out.below (by omega) (fun i e => by rw [e]; omega))⟩

theorem piece_at {w : World} {e : Nat} {base : Nat} {ok : Nat → Prop} {A : Option Addr} {c : Nat} {L : List S28} (hR : Kd.R k28 e w base ok (.slice A L.length c) L) (i : Nat) (hi : i < L.length) :
    ∃ g, A = some ⟨g, 0, none⟩ ∧ w.cell? ⟨g, i * 3, none⟩ = some (.int .i64 (L.getD i z28).f0) ∧ w.cell? ⟨g, i * 3 + 1, none⟩ = some (.int .i64 (L.getD i z28).f1) ∧ w.cell? ⟨g, i * 3 + 2, none⟩ = some (.int .i64 (L.getD i z28).f2) := by
  obtain ⟨ad, h0, h1, h2, h3⟩ := at_T28 (Kd.R_reads' hR).2.2 (i : Int) (by omega) (by omega)
  subst h0
  obtain ⟨g, rfl⟩ := Kd.R_head hR
  refine ⟨g, rfl, ?_, ?_, ?_⟩
  · rw [add_at, Nat.zero_add] at h1
    exact h1
  · rw [add_at, Nat.zero_add] at h2
    exact h2
  · rw [add_at, Nat.zero_add] at h3
    exact h3
set_option maxHeartbeats 8000000 in
set_option maxRecDepth 100000 in
theorem lives_calls (w : World) : Calls Try.prog 8 #[] w fun e w' => e = .returned (.bool true) ∧ Below w.heap.size w w' := by
  have h := Aside0.mk (pieces_calls 3008 1 0 3008 w (by decide) (by decide))
  have hw : want 3008 1 0 3008 = [⟨0, 3008, 1088⟩, ⟨1, 0, 1920⟩] := by kernel_rfl
  rw [hw] at h
  clear hw
  go_enter Try.func8, Try.ntmps8
  go_upto_region 2 with (go_at_call 6; refine h.out.mono ?_; rintro e w2 ⟨v, rfl, hR, hb⟩; replace hb := Aside0.mk hb; obtain ⟨A, c, e⟩ := Kd.R_slice hR; subst e)
  obtain ⟨g, rfl, k0, k1, k2⟩ := piece_at hR 0 (by decide)
  obtain ⟨g', e', k3, k4, k5⟩ := piece_at hR 1 (by decide)
  cases e'
  clear hR h
  go_wp2
  go_returns
  exact ⟨rfl, hb.out⟩

set_option maxHeartbeats 8000000 in
set_option maxRecDepth 100000 in
theorem law (a0 a1 x y : Int) (w : World) (b0 : -9223372036854775808 ≤ x) (b1 : x < 9223372036854775808) :
    Calls Try.prog 3 #[.int .i64 a0, .int .i64 a1, .agg #[.int .i64 x, .int .i64 y]] w fun e w' => e = .returned (.bool true) ∧ Below w.heap.size w w' := by
  have hp := fun W => Aside0.mk (pieces_calls a0 a1 x y W b0 b1)
  have hq := fun W => Aside0.mk (gunnyref16_Pieces.calls 5000 a0 a1 x y _ W (ref_law a0 a1 x y))
  have hlen : (want a0 a1 x y).length ≤ 2 := by
    unfold want
    split
    · exact pcs_len _ _
    · simp
  obtain ⟨L, hL⟩ : ∃ L, L = want a0 a1 x y := ⟨_, rfl⟩
  rw [← hL] at hp hq hlen
  clear hL b0 b1
  have hbx := blk_new w (.cells #[.int .i64 x, .int .i64 y] 22 (0, 0))
  have hb0 : Below w.heap.size w (w.alloc (.cells #[.int .i64 x, .int .i64 y] 22 (0, 0))) := (Below.refl _ _).alloc (Nat.le_refl _) _
  replace hbx := Aside0.mk hbx
  replace hb0 := Aside0.mk hb0
  have hp1 := hp (w.alloc (.cells #[.int .i64 x, .int .i64 y] 22 (0, 0)))
  clear hp
  go_enter Try.func3, Try.ntmps3
  go_upto_region 2 with (go_at_call 6; refine hp1.out.mono ?_; rintro e w2 ⟨v, rfl, hR, hb⟩; replace hb := Aside0.mk hb; obtain ⟨A, c, e⟩ := Kd.R_slice hR; subst e)
  have kb := Aside0.mk (blk_below hbx.out hb.out)
  have kx : w2.cell? ⟨w.heap.size, 0, none⟩ = some (.int .i64 x) := (blk_cell kb.out 0).trans rfl
  have ky : w2.cell? ⟨w.heap.size, 1, none⟩ = some (.int .i64 y) := (blk_cell kb.out 1).trans rfl
  have hq2 := hq w2
  replace hR := Aside0.mk hR
  clear hq hp1
  go_upto_region 3 with (go_at_call 7; refine hq2.out.mono ?_; rintro e w3 ⟨v3, rfl, hR3, hb3⟩; obtain ⟨A3, c3, e⟩ := Kd.R_slice hR3; subst e; replace hR3 := Aside0.mk hR3; replace hb3 := Aside0.mk hb3)
  have hR2 := Aside0.mk (Kd.R_below hR.out hb3.out)
  have hbw : Aside0 (Below w.heap.size w w3) := ⟨(hb0.out.trans (Below_low hb.out hb0.out.size)).trans (Below_low hb3.out (Nat.le_trans hb0.out.size hb.out.size))⟩
  clear hR kx ky kb hq2 hb hb3 hb0 hbx
  go_wp2
  go_loopg [9] L.length (fun kq v9 w' => ∃ i : Nat, v9 = .int .i64 (i : Int) ∧ Aside0 (i + kq = L.length) ∧ Aside0 (Kd.R k28 29 w' (w.alloc (.cells #[.int .i64 x, .int .i64 y] 22 (0, 0))).heap.size (fun _ => True) (.slice A L.length c) L) ∧ Aside0 (Kd.R k28 28 w' w2.heap.size (fun _ => True) (.slice A3 L.length c3) L) ∧ Aside0 (Below w.heap.size w w'))
  case atStart => exact ⟨0, rfl, ⟨by omega⟩, hR2, hR3, hbw⟩
  case round =>
    obtain ⟨i, rfl, HK, HA, HB, HW⟩ := hrel
    clear hR2 hR3 hbw
    cases gk with
    | zero =>
      obtain rfl : i = L.length := by have := HK.out; omega
      have e1 : decide ((L.length : Int) < (L.length : Int)) = false := decide_eq_false (by omega)
      go_wp2_with (go_at_call 8; refine (lives_calls _).mono ?_; rintro e w7 ⟨rfl, b7⟩; replace b7 := Aside0.mk b7)
      go_returns
      exact ⟨rfl, HW.out.trans (Below_low b7.out HW.out.size)⟩
    | succ k =>
      have hi : i < L.length := by have := HK.out; omega
      have e1 : decide ((i : Int) < (L.length : Int)) = true := decide_eq_true (by omega)
      have e2 : decide (i < L.length) = true := decide_eq_true hi
      have f0 : (0 : Int) ≤ (i : Int) := by omega
      have f1 : (i : Int) < (L.length : Int) := by omega
      obtain ⟨g, rfl, k0, k1, k2⟩ := piece_at HA.out i hi
      obtain ⟨g3, rfl, m0, m1, m2⟩ := piece_at HB.out i hi
      generalize L.getD i z28 = q at k0 k1 k2 m0 m1 m2
      have ws : Aside0 (wrap64 ((i : Int) + 1) = ((i + 1 : Nat) : Int)) := ⟨wnat _ _ (by omega) (by omega)⟩
      have hi2 : i < 1000 := by omega
      go_upto_region 8 with (fail)
      first | go_quiet (fail) | skip
      go_wp2
      go_roundg k
      case measure => omega
      case rel => exact ⟨i + 1, by first | rw [ws.out] | rfl, ⟨by have := HK.out; omega⟩, ⟨Kd.R_drewN HA.out _⟩, ⟨Kd.R_drewN HB.out _⟩, ⟨pw_below_drewN HW.out _⟩⟩

theorem pieces_walk (W : World) (a0 : Int) (w0 : (Lit.int .i64 a0).wf = true) (a1 : Int) (w1 : (Lit.int .i64 a1).wf = true) (xs : List Int) (hl : xs.length = 2) (hR : ∀ x ∈ xs, (Lit.int .i64 x).wf = true) :
    Calls Try.prog 3 #[.int .i64 a0, .int .i64 a1, .agg (xs.map (Value.int .i64)).toArray] W fun e w' => e = .returned (.bool true) ∧ Below W.heap.size W w' := by
  obtain ⟨x, y, rfl⟩ : ∃ x y, xs = [x, y] := by
    match xs, hl with
    | [x, y], _ => exact ⟨x, y, rfl⟩
  have h := hR x (by simp)
  have hb : -9223372036854775808 ≤ x ∧ x < 9223372036854775808 := by
    have := bounds_i64 h
    omega
  exact law a0 a1 x y W hb.1 hb.2

end Go.Proofs.Ytejeehcmcadmcaa.Hand
