/- frames.Take and Give, walked by hand. -/
import Derived.Test.YtapcpfpggjdikaaF1
namespace Go.Proofs.Ytapcpfpggjdikaa.Hand
set_option linter.unusedVariables false
set_option linter.unusedSimpArgs false
open Go.RowKit Go.Proofs.Ytapcpfpggjdikaa.R Go.Proofs.YtapcpfpggjdikaaW.PrintWords Go.Proofs.YtapcpfpggjdikaaW.PrintLast Go.Proofs.YtapcpfpggjdikaaW.PrintMore

set_option maxHeartbeats 8000000 in
set_option maxRecDepth 100000 in
theorem take_no (base g : Nat) (own F : List Int) (t : Int) (o c0 : Nat) (A1 : Option Addr) (c1 : Nat) (owner : Int) (w : World) (h : FS w base g own F t o c0 A1 c1) (hno : F = [] ∨ owner ≤ 0 ∨ owner > 3) :
    Calls Try.prog 9 #[.pointer (some ⟨g, 0, none⟩), .int .i64 owner] w fun e w' => e = .returned (.tuple #[.int .i64 0, .bool false]) ∧ Below w.heap.size w w' := by
  have k1 : w.cell? ⟨g, 1, none⟩ = some (.slice A1 F.length c1) := (blk_cell h.blk 1).trans rfl
  clear h
  by_cases hF : F = []
  · subst hF
    go_enter Try.func9, Try.ntmps9
    go_wp2
    go_returns
    exact ⟨rfl, Below.refl _ _⟩
  · have f0 : 0 < F.length := List.length_pos_iff.mpr hF
    have b1 : ((F.length : Int) == 0) = false := beq_eq_false_iff_ne.mpr (by omega)
    by_cases h0 : owner ≤ 0
    · have d1 : decide (owner ≤ 0) = true := decide_eq_true h0
      clear hno
      go_enter Try.func9, Try.ntmps9
      go_wp2
      go_returns
      exact ⟨rfl, Below.refl _ _⟩
    · have h3 : owner > 3 := by rcases hno with h | h | h; exact absurd h hF; exact absurd h h0; exact h
      have d1 : decide (owner ≤ 0) = false := decide_eq_false h0
      have d2 : decide (owner > 3) = true := decide_eq_true h3
      have d3 : decide (3 < owner) = true := decide_eq_true h3
      clear hno
      go_enter Try.func9, Try.ntmps9
      go_wp2
      go_returns
      exact ⟨rfl, Below.refl _ _⟩

theorem wid (n : Nat) (h : n < 1000000) : wrap64 (n : Int) = (n : Int) := by unfold wrap64; omega
theorem FS.gt {w : World} {base g : Nat} {own F : List Int} {t : Int} {o c0 : Nat} {A1 : Option Addr} {c1 : Nat} (h : FS w base g own F t o c0 A1 c1) : base ≤ w.heap.size := by
  have := h.ge
  have := blk_lt h.blk
  omega
set_option maxHeartbeats 8000000 in
set_option maxRecDepth 100000 in
theorem take_yes (base g : Nat) (own G : List Int) (x : Nat) (t : Int) (o c0 : Nat) (A1 : Option Addr) (c1 : Nat) (owner : Int) (w : World) (h : FS w base g own (G ++ [(x : Int)]) t o c0 A1 c1) (hx : x < own.length) (hG : G.length < 1000000) (hO : own.length < 1000000) (h1 : 1 ≤ owner) (h3 : owner ≤ 3) :
    Calls Try.prog 9 #[.pointer (some ⟨g, 0, none⟩), .int .i64 owner] w fun e w' => e = .returned (.tuple #[.int .i64 (x : Int), .bool true]) ∧ FS w' base g (own.set x owner) G (wrap64 (t + 1)) o c0 A1 c1 ∧ Only base w w' := by
  have hl : (G ++ [(x : Int)]).length = G.length + 1 := by simp
  obtain ⟨ad, c, he⟩ := Kd.R_slice1 h.r1 (by omega)
  injection he with he _ hcc
  subst he
  subst hcc
  obtain ⟨b, rfl⟩ := Kd.R_head h.r1
  have k0 : w.cell? ⟨g, 0, none⟩ = some (.slice (some ⟨o, 0, none⟩) own.length c0) := (blk_cell h.blk 0).trans rfl
  have k1 : w.cell? ⟨g, 1, none⟩ = some (.slice (some ⟨b, 0, none⟩) (G.length + 1) c1) := by have := (blk_cell h.blk 1).trans rfl; rw [hl] at this; exact this
  have k2 : w.cell? ⟨g, 2, none⟩ = some (.int .i64 t) := (blk_cell h.blk 2).trans rfl
  have f1 := blk_frozen h.blk 1
  have f2 := blk_frozen h.blk 2
  obtain ⟨ko, fo⟩ := Kd.R_celln (0 : Int) h.r0 (x : Int) (by omega) (by omega)
  obtain ⟨kb, fb⟩ := Kd.R_celln (0 : Int) h.r1 (G.length : Int) (by omega) (by omega)
  have eb : rdOf (0 : Int) (G ++ [(x : Int)]) (G.length : Int) = (x : Int) := by simp [rdOf]
  rw [eb, Int.toNat_natCast] at kb
  rw [Int.toNat_natCast] at ko fo
  clear fb
  have hgo := h.ne
  have hog := Ne.symm hgo
  have hbg : b ≠ g := (h.r1.1 b rfl).1
  have hbo : b ≠ o := (h.r1.1 b rfl).2
  have b1 : (((G.length + 1 : Nat) : Int) == 0) = false := beq_eq_false_iff_ne.mpr (by omega)
  have d1 : decide (owner ≤ 0) = false := decide_eq_false (by omega)
  have d3 : decide (3 < owner) = false := decide_eq_false (by omega)
  have ew := Aside0.mk (wid G.length hG)
  have d4 : decide (0 ≤ (G.length : Int)) = true := decide_eq_true (by omega)
  have d5 : decide (G.length < G.length + 1) = true := decide_eq_true (by omega)
  have d6 : decide (x < own.length) = true := decide_eq_true hx
  have d7 : decide ((x : Int) < (own.length : Int)) = true := decide_eq_true (by omega)
  have hc : G.length ≤ c1 := by have := (Kd.R_reads' h.r1).2.1; omega
  have dc1 : decide ((G.length : Int) ≤ (c1 : Int)) = true := decide_eq_true (by omega)
  have dc2 : decide (G.length ≤ c1) = true := decide_eq_true hc
  have dc3 : decide ((c1 : Int) < (G.length : Int)) = false := decide_eq_false (by omega)
  replace hbg := Aside0.mk hbg
  replace hbo := Aside0.mk hbo
  replace h := Aside0.mk h
  clear hG hO h1 h3 eb hl
  go_enter Try.func9, Try.ntmps9
  go_upto_region 4 with (fail)
  rw [ew.out]
  go_wp2
  go_returns
  have H := h.out
  have B1 : (w.setCell ⟨g, 1, none⟩ (.slice (some ⟨b, 0, none⟩) G.length c1)).heap[g]? = some (.cells #[.slice (some ⟨o, 0, none⟩) own.length c0, .slice (some ⟨b, 0, none⟩) G.length c1, .int .i64 t] 51 (0, 0)) := blk_put H.blk 1 _ (by simp)
  have R0 := Kd.R_far (p := ⟨g, 1, none⟩) H.r0 (fun k hk => by rw [hk]; exact hog) (.slice (some ⟨b, 0, none⟩) G.length c1)
  have R1 := Kd.R_far (p := ⟨g, 1, none⟩) H.r1 (fun k hk => hk.1) (.slice (some ⟨b, 0, none⟩) G.length c1)
  have O1 := (Only.refl base w H.gt).set H.blk (.inr rfl) H.ge 1 (.slice (some ⟨b, 0, none⟩) G.length c1)
  obtain ⟨cells, hty⟩ := Kd.R_typed R0 o rfl
  have hbo := Kd.R_base R0 o rfl
  have S0 := Kd.R_putn R0 (x : Int) owner
  have S1 := Kd.R_far (p := ⟨o, x, none⟩) R1 (fun k hk => hk.2) (.int .i64 owner)
  have O2 := O1.set hty (.inl rfl) hbo x (.int .i64 owner)
  have B2 := blk_far B1 (p := ⟨o, x, none⟩) hgo (.int .i64 owner)
  rw [Int.toNat_natCast] at S0
  have B3 := blk_put (cs' := #[.slice (some ⟨o, 0, none⟩) own.length c0, .slice (some ⟨b, 0, none⟩) G.length c1, .int .i64 (wrap64 (t + 1))]) B2 2 (.int .i64 (wrap64 (t + 1))) (by simp)
  have O3 := O2.set B2 (.inr rfl) H.ge 2 (.int .i64 (wrap64 (t + 1)))
  refine ⟨rfl, ⟨by rw [List.length_set]; exact B3, ?_, ?_, H.ge⟩, O3⟩
  · rw [List.length_set]
    exact Kd.R_far (p := ⟨g, 2, none⟩) S0 (fun k hk => by rw [hk]; exact hog) _
  · have := Kd.R_far (p := ⟨g, 2, none⟩) S1 (fun k hk => hk.1) (.int .i64 (wrap64 (t + 1)))
    have := Kd.R_take (m := G.length) this (by simp)
    have e : (G ++ [(x : Int)]).take G.length = G := by simp
    rw [e] at this
    exact this

/-! Owner -/
def ownerOf (own : List Int) (a : Int) : Int := if 0 ≤ a ∧ a < own.length then own.getD a.toNat 0 else 0
theorem many_some (own F : List Int) (t : Int) : frames_Frames_Many.f own F t = some ((own.length : Int), t) := rfl
theorem owner_some (own F : List Int) (t a : Int) : frames_Frames_Owner.f own F t a = some (ownerOf own a, t) := by
  unfold frames_Frames_Owner.f ownerOf
  by_cases h0 : a < 0
  · rw [if_pos h0, if_neg (by omega)]
  · rw [if_neg h0, many_some]
    simp only [Option.bind_some]
    by_cases h1 : a ≥ (own.length : Int)
    · rw [if_pos h1, if_neg (by omega)]
    · rw [if_neg h1, if_pos (by omega), if_pos (by omega), if_pos (by omega)]
      rfl
theorem owner_calls (base g : Nat) (own F : List Int) (t : Int) (o c0 : Nat) (A1 : Option Addr) (c1 : Nat) (a : Int) (w : World) (h : FS w base g own F t o c0 A1 c1) :
    Calls Try.prog 11 #[.pointer (some ⟨g, 0, none⟩), .int .i64 a] w fun e w' => e = .returned (.int .i64 (ownerOf own a)) ∧ Below w.heap.size w w' :=
  (frames_Frames_Owner.calls g own F t a _ _ w w h.is (Below.refl _ _) (owner_some own F t a)).mono fun e w' ⟨he, _, hb, _⟩ => ⟨he, hb⟩

set_option maxHeartbeats 8000000 in
set_option maxRecDepth 100000 in
theorem give_no (base g : Nat) (own F : List Int) (t : Int) (o c0 : Nat) (A1 : Option Addr) (c1 : Nat) (a : Int) (w : World) (h : FS w base g own F t o c0 A1 c1) (hno : ownerOf own a = 0) :
    Calls Try.prog 8 #[.pointer (some ⟨g, 0, none⟩), .int .i64 a] w fun e w' => e = .returned (.bool false) ∧ Below w.heap.size w w' := by
  replace h := Aside0.mk h
  replace hno := Aside0.mk hno
  go_enter Try.func8, Try.ntmps8
  go_wp2_with (go_at_call 11; refine (owner_calls base g own F t o c0 A1 c1 a _ h.out).mono ?_; rintro e w2 ⟨rfl, hb⟩; rw [hno.out]; replace hb := Aside0.mk hb)
  go_returns
  exact ⟨rfl, hb.out⟩

set_option maxHeartbeats 8000000 in
set_option maxRecDepth 100000 in
theorem give_yes (base g : Nat) (own F : List Int) (x : Nat) (t : Int) (o c0 : Nat) (A1 : Option Addr) (c1 : Nat) (w : World) (h : FS w base g own F t o c0 A1 c1) (hx : x < own.length) (hn : own.getD x 0 ≠ 0) (hF : F.length < 1000000) (hO : own.length < 1000000) :
    Calls Try.prog 8 #[.pointer (some ⟨g, 0, none⟩), .int .i64 (x : Int)] w fun e w' => ∃ A1 c1, e = .returned (.bool true) ∧ FS w' base g (own.set x 0) (F ++ [(x : Int)]) (wrap64 (t + 1)) o c0 A1 c1 ∧ Only base w w' := by
  have ho : ownerOf own (x : Int) = own.getD x 0 := by unfold ownerOf; rw [if_pos (by omega)]; rfl
  have hb0 : (own.getD x 0 == 0) = false := beq_eq_false_iff_ne.mpr hn
  have d7 : decide ((x : Int) < (own.length : Int)) = true := decide_eq_true (by omega)
  have d6 : decide (x < own.length) = true := decide_eq_true hx
  have hal : (F.length + 1) * 8 ≤ 140737488355328 := by omega
  obtain ⟨q, hq⟩ : ∃ q, q = own.getD x 0 := ⟨_, rfl⟩
  rw [← hq] at ho hb0
  replace h := Aside0.mk h
  replace ho := Aside0.mk ho
  replace hal := Aside0.mk hal
  clear hn hF hO hq
  go_enter Try.func8, Try.ntmps8
  go_upto_region 3 with (go_at_call 11; refine (owner_calls base g own F t o c0 A1 c1 (x : Int) _ h.out).mono ?_; rintro e w2 ⟨rfl, hb⟩; rw [ho.out]; replace hb := Aside0.mk hb)
  have H := h.out.below hb.out
  have k0 : w2.cell? ⟨g, 0, none⟩ = some (.slice (some ⟨o, 0, none⟩) own.length c0) := (blk_cell H.blk 0).trans rfl
  have k1 : w2.cell? ⟨g, 1, none⟩ = some (.slice A1 F.length c1) := (blk_cell H.blk 1).trans rfl
  have k2 : w2.cell? ⟨g, 2, none⟩ = some (.int .i64 t) := (blk_cell H.blk 2).trans rfl
  have f1 := blk_frozen H.blk 1
  have f2 := blk_frozen H.blk 2
  obtain ⟨ko, fo⟩ := Kd.R_celln (0 : Int) H.r0 (x : Int) (by omega) (by omega)
  rw [Int.toNat_natCast] at ko fo
  have hgo := H.ne
  have hog := Ne.symm hgo
  replace H := Aside0.mk H
  go_upto_region 4 with (fail)
  have B1 := blk_far H.out.blk (p := ⟨o, x, none⟩) hgo (.int .i64 0)
  have R0 := Kd.R_putn H.out.r0 (x : Int) (0 : Int)
  rw [Int.toNat_natCast] at R0
  have R1 := Kd.R_far (p := ⟨o, x, none⟩) H.out.r1 (fun k hk => hk.2) (.int .i64 0)
  obtain ⟨cells, hty⟩ := Kd.R_typed H.out.r0 o rfl
  have hbo := Kd.R_base H.out.r0 o rfl
  have O1 := ((Only.of_below hb.out h.out.gt).set hty (.inl rfl) hbo x (.int .i64 0))
  have hge := H.out.ge
  have R0' : RI (w2.setCell ⟨o, x, none⟩ (.int .i64 0)) base (fun k => k = o) (.slice (some ⟨o, 0, none⟩) own.length c0) (own.set x 0) := R0
  clear hty cells ko fo k0 k1 k2 f1 f2 R0
  clear hb H
  generalize w2.setCell ⟨o, x, none⟩ (.int .i64 0) = w3 at B1 R0' R1 O1 ⊢
  have k1 : w3.cell? ⟨g, 1, none⟩ = some (.slice A1 F.length c1) := (blk_cell B1 1).trans rfl
  have f1 := blk_frozen B1 1
  have haf : ∀ k_, w3.heap.size ≤ k_ → k_ ≠ g ∧ k_ ≠ o := fun k_ hk => by
    have h1 := Kd.R_lt R0' o rfl
    have h2 := blk_lt B1
    exact ⟨by omega, by omega⟩
  replace haf := Aside0.mk haf
  have hsz := Aside0.mk O1.ge2
  replace B1 := Aside0.mk B1
  replace R0' := Aside0.mk R0'
  replace R1 := Aside0.mk R1
  replace O1 := Aside0.mk O1
  replace hge := Aside0.mk hge
  replace hbo := Aside0.mk hbo
  go_upto_region 5 with (first | ((with_reducible refine gate_builtin (b := .append) (xs := #[.tmp 19, .tmp 21]) rfl ?_); at_builtin; refine Kd.R_append (Kd.int .i64) (w0 := w3) base rfl (.tmp 19) (.tmp 21) 37 3 (.int .i64 0) 8 rfl Try.underlying37 info3 rfl (by decide) (by omega) (.slice A1 F.length c1) F (x : Int) [.int .i64 (x : Int)] (fun k_ => k_ ≠ g ∧ k_ ≠ o) (fun _ => False) rfl rfl ?aP (fun _ hk => hk.elim) ?aF ?aO ?aB ?aS ?aL ?_; (case aP => exact rfl); (case aB => exact Below.refl _ _); (case aF => exact haf.out); (case aO => exact R1.out); (case aS => exact hsz.out); (case aL => exact hal.out); intro v4 w4 ho' hb' hg hat; have n0_ := Aside0.mk (Kd.R_step R0'.out (fun k_ hk hlt => hg.block k_ hlt (fun e => (R1.out.1 k_ e.symm).2 hk))); have n1_ := Aside0.mk (blk_grown B1.out hg (Kd.R_ne R1.out B1.out (by decide))); have n2_ := Aside0.mk (O1.out.trans (Only.grown (Only.refl base _ O1.out.ge2) R1.out hb' hg)); clear R0' B1 R1 O1 k1 f1; obtain ⟨A2, c2, e4⟩ := Kd.R_slice ho'; subst e4; have R0' := n0_; have B1 := n1_; have O1 := n2_; have R1 := Aside0.mk ho'; clear n0_ n1_ n2_ ho' hb' hg hat; have k1 : w4.cell? ⟨g, 1, none⟩ = some (.slice A1 F.length c1) := (blk_cell B1.out 1).trans rfl; have f1 := blk_frozen B1.out 1))
  have B2 := blk_put (cs' := #[.slice (some ⟨o, 0, none⟩) own.length c0, .slice A2 (F.length + 1) c2, .int .i64 t]) B1.out 1 (.slice A2 (F.length + 1) c2) (by simp)
  have R02 := Kd.R_far (p := ⟨g, 1, none⟩) R0'.out (fun k hk => by rw [hk]; exact hog) (.slice A2 (F.length + 1) c2)
  have R12 := Kd.R_far (p := ⟨g, 1, none⟩) R1.out (fun k hk => hk.1) (.slice A2 (F.length + 1) c2)
  have O2 := O1.out.set B1.out (.inr rfl) hge.out 1 (.slice A2 (F.length + 1) c2)
  clear k1 f1 B1 R0' R1 O1
  generalize w4.setCell ⟨g, 1, none⟩ (.slice A2 (F.length + 1) c2) = w5 at B2 R02 R12 O2 ⊢
  have k2 : w5.cell? ⟨g, 2, none⟩ = some (.int .i64 t) := (blk_cell B2 2).trans rfl
  have f2 := blk_frozen B2 2
  replace B2 := Aside0.mk B2
  replace R02 := Aside0.mk R02
  replace R12 := Aside0.mk R12
  replace O2 := Aside0.mk O2
  go_wp2
  go_returns
  have B3 := blk_put (cs' := #[.slice (some ⟨o, 0, none⟩) own.length c0, .slice A2 (F.length + 1) c2, .int .i64 (wrap64 (t + 1))]) B2.out 2 (.int .i64 (wrap64 (t + 1))) (by simp)
  have O3 := O2.out.set B2.out (.inr rfl) hge.out 2 (.int .i64 (wrap64 (t + 1)))
  have e : (F ++ [(x : Int)]).length = F.length + 1 := by simp
  refine ⟨A2, c2, rfl, ⟨by rw [List.length_set, e]; exact B3, ?_, ?_, hge.out⟩, O3⟩
  · rw [List.length_set]
    exact Kd.R_far (p := ⟨g, 2, none⟩) R02.out (fun k hk => by rw [hk]; exact hog) _
  · exact Kd.R_far (p := ⟨g, 2, none⟩) R12.out (fun k hk => hk.1) _

end Go.Proofs.Ytapcpfpggjdikaa.Hand
