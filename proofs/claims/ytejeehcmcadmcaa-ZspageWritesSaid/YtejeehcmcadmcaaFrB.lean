/- frames.Take, Give, Owner, Many, walked by hand, and what is not there. -/
import Derived.Test.YtejeehcmcadmcaaFrA
namespace Go.Proofs.Ytejeehcmcadmcaa.Hand
set_option linter.unusedVariables false
set_option linter.unusedSimpArgs false
open Go.RowKit Go.Proofs.Ytejeehcmcadmcaa.R Go.Proofs.YtejeehcmcadmcaaW.PrintWords Go.Proofs.YtejeehcmcadmcaaW.PrintLast Go.Proofs.YtejeehcmcadmcaaW.PrintMore

set_option maxHeartbeats 8000000 in
set_option maxRecDepth 100000 in
theorem take_no (base g : Nat) (own F : List Int) (t : Int) (o c0 : Nat) (A1 : Option Addr) (c1 : Nat) (owner : Int) (w : World) (h : FS w base g own F t o c0 A1 c1) (hno : F = [] ∨ owner ≤ 0 ∨ owner > 3) :
    Calls Try.prog 27 #[.pointer (some ⟨g, 0, none⟩), .int .i64 owner] w fun e w' => e = .returned (.tuple #[.int .i64 0, .bool false]) ∧ Below w.heap.size w w' := by
  have k1 : w.cell? ⟨g, 1, none⟩ = some (.slice A1 F.length c1) := (blk_cell h.blk 1).trans rfl
  clear h
  by_cases hF : F = []
  · subst hF
    go_enter Try.func27, Try.ntmps27
    go_wp2
    go_returns
    exact ⟨rfl, Below.refl _ _⟩
  · have f0 : 0 < F.length := List.length_pos_iff.mpr hF
    have b1 : ((F.length : Int) == 0) = false := beq_eq_false_iff_ne.mpr (by omega)
    by_cases h0 : owner ≤ 0
    · have d1 : decide (owner ≤ 0) = true := decide_eq_true h0
      clear hno
      go_enter Try.func27, Try.ntmps27
      go_wp2
      go_returns
      exact ⟨rfl, Below.refl _ _⟩
    · have h3 : owner > 3 := by rcases hno with h | h | h; exact absurd h hF; exact absurd h h0; exact h
      have d1 : decide (owner ≤ 0) = false := decide_eq_false h0
      have d2 : decide (owner > 3) = true := decide_eq_true h3
      have d3 : decide (3 < owner) = true := decide_eq_true h3
      clear hno
      go_enter Try.func27, Try.ntmps27
      go_wp2
      go_returns
      exact ⟨rfl, Below.refl _ _⟩

theorem wid (n : Nat) (h : n < 1000000) : wrap64 (n : Int) = (n : Int) := by unfold wrap64; omega
theorem FS.gt {w : World} {base g : Nat} {own F : List Int} {t : Int} {o c0 : Nat} {A1 : Option Addr} {c1 : Nat} (h : FS w base g own F t o c0 A1 c1) : base ≤ w.heap.size := by
  have := h.ge
  have := blk_lt h.blk
  omega
def ownerOf (own : List Int) (a : Int) : Int := if 0 ≤ a ∧ a < own.length then own.getD a.toNat 0 else 0
set_option maxHeartbeats 8000000 in
set_option maxRecDepth 100000 in
theorem many_q (base g : Nat) (own F : List Int) (t : Int) (o c0 : Nat) (A1 : Option Addr) (c1 : Nat) (w : World) (h : FS w base g own F t o c0 A1 c1) :
    Calls Try.prog 31 #[.pointer (some ⟨g, 0, none⟩)] w fun e w' => e = .returned (.int .i64 (own.length : Int)) ∧ w' = w := by
  have k0 : w.cell? ⟨g, 0, none⟩ = some (.slice (some ⟨o, 0, none⟩) own.length c0) := (blk_cell h.blk 0).trans rfl
  clear h
  go_enter Try.func31, Try.ntmps31
  go_wp2
  go_returns
  exact ⟨rfl, rfl⟩
set_option maxHeartbeats 8000000 in
set_option maxRecDepth 100000 in
theorem owner_q (base g : Nat) (own F : List Int) (t : Int) (o c0 : Nat) (A1 : Option Addr) (c1 : Nat) (a : Int) (w : World) (h : FS w base g own F t o c0 A1 c1) :
    Calls Try.prog 29 #[.pointer (some ⟨g, 0, none⟩), .int .i64 a] w fun e w' => e = .returned (.int .i64 (ownerOf own a)) ∧ w' = w := by
  have k0 : w.cell? ⟨g, 0, none⟩ = some (.slice (some ⟨o, 0, none⟩) own.length c0) := (blk_cell h.blk 0).trans rfl
  unfold ownerOf
  by_cases h0 : a < 0
  · have d1 : decide (a < 0) = true := decide_eq_true h0
    rw [if_neg (by omega)]
    clear h
    go_enter Try.func29, Try.ntmps29
    go_wp2
    go_returns
    exact ⟨rfl, rfl⟩
  have d1 : decide (a < 0) = false := decide_eq_false h0
  obtain ⟨x, rfl⟩ : ∃ x : Nat, a = (x : Int) := ⟨a.toNat, by omega⟩
  by_cases h1 : x < own.length
  · have d2 : decide ((own.length : Int) ≤ (x : Int)) = false := decide_eq_false (by omega)
    have d3 : decide ((x : Int) < (own.length : Int)) = true := decide_eq_true (by omega)
    have d4 : decide (x < own.length) = true := decide_eq_true h1
    have d5 : decide (own.length ≤ x) = false := decide_eq_false (by omega)
    rw [if_pos (by omega)]
    obtain ⟨ko, _⟩ := Kd.R_celln (0 : Int) h.r0 (x : Int) (by omega) (by omega)
    have e : rdOf (0 : Int) own (x : Int) = own.getD (x : Int).toNat 0 := rfl
    rw [e, Int.toNat_natCast] at ko
    rw [Int.toNat_natCast]
    replace h := Aside0.mk h
    go_enter Try.func29, Try.ntmps29
    go_wp2_with (go_at_call 31; refine (many_q base g own F t o c0 A1 c1 _ h.out).mono ?_; rintro e w2 ⟨rfl, rfl⟩)
    go_returns
    exact ⟨by simp [h1], rfl⟩
  · have d2 : decide ((own.length : Int) ≤ (x : Int)) = true := decide_eq_true (by omega)
    have d5 : decide (own.length ≤ x) = true := decide_eq_true (by omega)
    rw [if_neg (by omega)]
    replace h := Aside0.mk h
    go_enter Try.func29, Try.ntmps29
    go_wp2_with (go_at_call 31; refine (many_q base g own F t o c0 A1 c1 _ h.out).mono ?_; rintro e w2 ⟨rfl, rfl⟩)
    go_returns
    exact ⟨rfl, rfl⟩

theorem owner_calls (base g : Nat) (own F : List Int) (t : Int) (o c0 : Nat) (A1 : Option Addr) (c1 : Nat) (a : Int) (w : World) (h : FS w base g own F t o c0 A1 c1) :
    Calls Try.prog 29 #[.pointer (some ⟨g, 0, none⟩), .int .i64 a] w fun e w' => e = .returned (.int .i64 (ownerOf own a)) ∧ Below w.heap.size w w' :=
  (owner_q base g own F t o c0 A1 c1 a w h).mono fun e w' ⟨he, hw⟩ => ⟨he, by rw [hw]; exact Below.refl _ _⟩
set_option maxHeartbeats 8000000 in
set_option maxRecDepth 100000 in
theorem take_yes2 (base g : Nat) (own G : List Int) (x : Nat) (t : Int) (o c0 : Nat) (A1 : Option Addr) (c1 : Nat) (owner : Int) (w : World) (h : FS w base g own (G ++ [(x : Int)]) t o c0 A1 c1) (hx : x < own.length) (hG : G.length < 1000000) (hO : own.length < 1000000) (h1 : 1 ≤ owner) (h3 : owner ≤ 3) :
    Calls Try.prog 27 #[.pointer (some ⟨g, 0, none⟩), .int .i64 owner] w fun e w' => e = .returned (.tuple #[.int .i64 (x : Int), .bool true]) ∧ FS w' base g (own.set x owner) G (wrap64 (t + 1)) o c0 A1 c1 ∧ Only base w w' ∧ Kp g o A1 w w' := by
  have hl : (G ++ [(x : Int)]).length = G.length + 1 := by simp
  obtain ⟨ad, c, he⟩ := Kd.R_slice1 h.r1 (by omega)
  injection he with he _ hcc
  subst he
  subst hcc
  obtain ⟨b, rfl⟩ := Kd.R_head h.r1
  have k0 : w.cell? ⟨g, 0, none⟩ = some (.slice (some ⟨o, 0, none⟩) own.length c0) := (blk_cell h.blk 0).trans rfl
  have k1 : w.cell? ⟨g, 1, none⟩ = some (.slice (some ⟨b, 0, none⟩) (G.length + 1) c1) := by have := (blk_cell h.blk 1).trans rfl; rw [hl] at this; exact this
  have k2 : w.cell? ⟨g, 2, none⟩ = some (.int .i64 t) := (blk_cell h.blk 2).trans rfl
  have f1 := blk_frozen h.blk 1
  have f2 := blk_frozen h.blk 2
  obtain ⟨ko, fo⟩ := Kd.R_celln (0 : Int) h.r0 (x : Int) (by omega) (by omega)
  obtain ⟨kb, fb⟩ := Kd.R_celln (0 : Int) h.r1 (G.length : Int) (by omega) (by omega)
  have eb : rdOf (0 : Int) (G ++ [(x : Int)]) (G.length : Int) = (x : Int) := by simp [rdOf]
  rw [eb, Int.toNat_natCast] at kb
  rw [Int.toNat_natCast] at ko fo
  clear fb
  have hgo := h.ne
  have hog := Ne.symm hgo
  have hbg : b ≠ g := (h.r1.1 b rfl).1
  have hbo : b ≠ o := (h.r1.1 b rfl).2
  have b1 : (((G.length + 1 : Nat) : Int) == 0) = false := beq_eq_false_iff_ne.mpr (by omega)
  have d1 : decide (owner ≤ 0) = false := decide_eq_false (by omega)
  have d3 : decide (3 < owner) = false := decide_eq_false (by omega)
  have ew := Aside0.mk (wid G.length hG)
  have d4 : decide (0 ≤ (G.length : Int)) = true := decide_eq_true (by omega)
  have d5 : decide (G.length < G.length + 1) = true := decide_eq_true (by omega)
  have d6 : decide (x < own.length) = true := decide_eq_true hx
  have d7 : decide ((x : Int) < (own.length : Int)) = true := decide_eq_true (by omega)
  have hc : G.length ≤ c1 := by have := (Kd.R_reads' h.r1).2.1; omega
  have dc1 : decide ((G.length : Int) ≤ (c1 : Int)) = true := decide_eq_true (by omega)
  have dc2 : decide (G.length ≤ c1) = true := decide_eq_true hc
  have dc3 : decide ((c1 : Int) < (G.length : Int)) = false := decide_eq_false (by omega)
  replace hbg := Aside0.mk hbg
  replace hbo := Aside0.mk hbo
  replace h := Aside0.mk h
  clear hG hO h1 h3 eb hl
  go_enter Try.func27, Try.ntmps27
  go_upto_region 4 with (fail)
  rw [ew.out]
  go_wp2
  go_returns
  have H := h.out
  have B1 : (w.setCell ⟨g, 1, none⟩ (.slice (some ⟨b, 0, none⟩) G.length c1)).heap[g]? = some (.cells #[.slice (some ⟨o, 0, none⟩) own.length c0, .slice (some ⟨b, 0, none⟩) G.length c1, .int .i64 t] 66 (0, 0)) := blk_put H.blk 1 _ (by simp)
  have R0 := Kd.R_far (p := ⟨g, 1, none⟩) H.r0 (fun k hk => by rw [hk]; exact hog) (.slice (some ⟨b, 0, none⟩) G.length c1)
  have R1 := Kd.R_far (p := ⟨g, 1, none⟩) H.r1 (fun k hk => hk.1) (.slice (some ⟨b, 0, none⟩) G.length c1)
  have O1 := (Only.refl base w H.gt).set H.blk (.inr rfl) H.ge 1 (.slice (some ⟨b, 0, none⟩) G.length c1)
  obtain ⟨cells, hty⟩ := Kd.R_typed R0 o rfl
  have hbo := Kd.R_base R0 o rfl
  have S0 := Kd.R_putn R0 (x : Int) owner
  have S1 := Kd.R_far (p := ⟨o, x, none⟩) R1 (fun k hk => hk.2) (.int .i64 owner)
  have O2 := O1.set hty (.inl rfl) hbo x (.int .i64 owner)
  have B2 := blk_far B1 (p := ⟨o, x, none⟩) hgo (.int .i64 owner)
  rw [Int.toNat_natCast] at S0
  have B3 := blk_put (cs' := #[.slice (some ⟨o, 0, none⟩) own.length c0, .slice (some ⟨b, 0, none⟩) G.length c1, .int .i64 (wrap64 (t + 1))]) B2 2 (.int .i64 (wrap64 (t + 1))) (by simp)
  have O3 := O2.set B2 (.inr rfl) H.ge 2 (.int .i64 (wrap64 (t + 1)))
  refine ⟨rfl, ⟨by rw [List.length_set]; exact B3, ?_, ?_, H.ge⟩, O3, (((Kp.refl g o _ w).setg _ _).seto _ _).setg _ _⟩
  · rw [List.length_set]
    exact Kd.R_far (p := ⟨g, 2, none⟩) S0 (fun k hk => by rw [hk]; exact hog) _
  · have := Kd.R_far (p := ⟨g, 2, none⟩) S1 (fun k hk => hk.1) (.int .i64 (wrap64 (t + 1)))
    have := Kd.R_take (m := G.length) this (by simp)
    have e : (G ++ [(x : Int)]).take G.length = G := by simp
    rw [e] at this
    exact this

/-- What is told of frames: all free ones are frames. -/
structure OK (own F : List Int) (n f : Nat) : Prop where
  len : own.length = n
  lim : n < 1000000
  most : F.length ≤ f
  few : f < 1000000
  are : ∀ x ∈ F, 0 ≤ x ∧ x < n
structure Res where
  own : List Int
  F : List Int
  t : Int
  v : Int
  b : Bool
def tk (own F : List Int) (t owner : Int) : Res := if F ≠ [] ∧ 1 ≤ owner ∧ owner ≤ 3 then ⟨own.set (F.getLastD 0).toNat owner, F.dropLast, wrap64 (t + 1), F.getLastD 0, true⟩ else ⟨own, F, t, 0, false⟩
def gv (own F : List Int) (t a : Int) : Res := if ownerOf own a ≠ 0 then ⟨own.set a.toNat 0, F ++ [a], wrap64 (t + 1), 0, true⟩ else ⟨own, F, t, 0, false⟩

theorem ownerOf_ne {own : List Int} {a : Int} (h : ownerOf own a ≠ 0) : 0 ≤ a ∧ a < own.length := by
  unfold ownerOf at h
  split at h
  · assumption
  · exact absurd rfl h
theorem OK.tk {own F : List Int} {n f : Nat} (h : OK own F n f) (t owner : Int) : OK (tk own F t owner).own (tk own F t owner).F n f := by
  unfold Hand.tk
  split
  · exact ⟨by simpa using h.len, h.lim, by have := h.most; simp; omega, h.few, fun x hx => h.are x (List.dropLast_subset _ hx)⟩
  · exact h
theorem OK.gv {own F : List Int} {n f : Nat} (h : OK own F n f) (hf : f + 1 < 1000000) (t a : Int) : OK (gv own F t a).own (gv own F t a).F n (f + 1) := by
  unfold Hand.gv
  split
  · rename_i hn
    have := ownerOf_ne hn
    have hl := h.len
    refine ⟨by simpa using h.len, h.lim, by have := h.most; simp; omega, hf, fun x hx => ?_⟩
    rcases List.mem_append.1 hx with hx | hx
    · exact h.are x hx
    · rw [List.mem_singleton.1 hx]; omega
  · exact ⟨h.len, h.lim, Nat.le_succ_of_le h.most, hf, h.are⟩

/-- The blocks of frames. -/
def Fown (g o : Nat) (A1 : Option Addr) (k : Nat) : Prop := k = g ∨ k = o ∨ ∃ ad, A1 = some ad ∧ k = ad.block
theorem Kp.far {g o : Nat} {A1 : Option Addr} {base : Nat} {w w' : World} (h : Kp g o A1 w w') (b : Below base w w') : Far (Fown g o A1) w w' :=
  ⟨b.os, b.tape, b.output, h.1, fun k hk hn => h.2 k hk (fun e => hn (.inl e)) (fun e => hn (.inr (.inl e))) (fun ad ha e => hn (.inr (.inr ⟨ad, ha, e⟩)))⟩
theorem FS.stay {w w' : World} {base g : Nat} {own F : List Int} {t : Int} {o c0 : Nat} {A1 : Option Addr} {c1 : Nat} {S : Nat → Prop} (h : FS w base g own F t o c0 A1 c1) (f : Far S w w') (hd : ∀ k, Fown g o A1 k → ¬ S k) : FS w' base g own F t o c0 A1 c1 := by
  refine ⟨f.blk h.blk (hd g (.inl rfl)), ?_, ?_, h.ge⟩
  · exact Kd.R_step h.r0 (fun k hk hlt => f.block k hlt (by rw [hk]; exact hd o (.inr (.inl rfl))))
  · refine Kd.R_mono (Kd.R_step (Kd.R_tight rfl h.r1) (fun k hk hlt => f.block k hlt (hd k ?_))) (fun k hk => h.r1.1 k hk.symm)
    cases A1 with
    | none => simp [Value.ownBlock] at hk
    | some ad => exact .inr (.inr ⟨ad, rfl, Option.some.inj hk⟩)
theorem FS.own_lt {w : World} {base g : Nat} {own F : List Int} {t : Int} {o c0 : Nat} {A1 : Option Addr} {c1 : Nat} (h : FS w base g own F t o c0 A1 c1) (k : Nat) (hk : Fown g o A1 k) : base ≤ k ∧ k < w.heap.size := by
  rcases hk with rfl | rfl | ⟨ad, rfl, rfl⟩
  · exact ⟨h.ge, blk_lt h.blk⟩
  · exact ⟨Kd.R_base h.r0 _ rfl, Kd.R_lt h.r0 _ rfl⟩
  · exact ⟨Kd.R_base h.r1 _ (by simp [Value.ownBlock]), Kd.R_lt h.r1 _ (by simp [Value.ownBlock])⟩

theorem take_calls (base g : Nat) (own F : List Int) (t : Int) (o c0 : Nat) (A1 : Option Addr) (c1 : Nat) (owner : Int) (w : World) (h : FS w base g own F t o c0 A1 c1) {n f : Nat} (hk : OK own F n f) (r : Res) (hr : r = tk own F t owner) :
    Calls Try.prog 27 #[.pointer (some ⟨g, 0, none⟩), .int .i64 owner] w fun e w' => ∃ A2 c2, e = .returned (.tuple #[.int .i64 r.v, .bool r.b]) ∧ FS w' base g r.own r.F r.t o c0 A2 c2 ∧ Only base w w' ∧ Far (Fown g o A1) w w' ∧ (∀ k, Fown g o A2 k → Fown g o A1 k ∨ w.heap.size ≤ k) := by
  subst hr
  unfold tk
  split
  · rename_i hc
    obtain ⟨G, y, rfl⟩ : ∃ G y, F = G ++ [y] := ⟨F.dropLast, F.getLast hc.1, (List.dropLast_concat_getLast hc.1).symm⟩
    have hy := hk.are y (by simp)
    obtain ⟨x, rfl⟩ : ∃ x : Nat, y = (x : Int) := ⟨y.toNat, by omega⟩
    have hl := hk.len
    have h1 := hk.lim
    have h2 := hk.most
    have h3 := hk.few
    have hG : (G ++ [(x : Int)]).length = G.length + 1 := by simp
    have e1 : (G ++ [(x : Int)]).getLastD 0 = (x : Int) := by simp
    have e2 : (G ++ [(x : Int)]).dropLast = G := by simp
    rw [e1, e2, Int.toNat_natCast]
    exact (take_yes2 base g own G x t o c0 A1 c1 owner w h (by omega) (by omega) (by omega) hc.2.1 hc.2.2).mono fun e w' ⟨a, b, c, d⟩ => ⟨A1, c1, a, b, c, d.far c.below, fun k hk => .inl hk⟩
  · rename_i hc
    refine (take_no base g own F t o c0 A1 c1 owner w h ?_).mono fun e w' ⟨a, b⟩ => ⟨A1, c1, a, h.below b, Only.of_below b h.gt, Far.of_below b, fun k hk => .inl hk⟩
    by_cases hF : F = []
    · exact .inl hF
    · by_cases h1 : owner ≤ 0
      · exact .inr (.inl h1)
      · exact .inr (.inr (by
          by_cases h3 : owner ≤ 3
          · exact absurd ⟨hF, by omega, h3⟩ hc
          · omega))
theorem OK.new (n : Nat) (h : n < 1000000) : OK (List.replicate n 0) (dn n 0) n n := by
  refine ⟨by simp, h, by rw [dn_length]; omega, h, fun x hx => ?_⟩
  unfold dn at hx
  obtain ⟨i, hi, rfl⟩ := List.mem_map.1 hx
  have := List.mem_range.1 hi
  omega
set_option maxHeartbeats 8000000 in
set_option maxRecDepth 100000 in
theorem nil_many (w : World) : Calls Try.prog 31 #[.pointer none] w fun e w' => e = .returned (.int .i64 0) ∧ w' = w := by
  go_enter Try.func31, Try.ntmps31
  go_wp2
  go_returns
  exact ⟨rfl, rfl⟩
set_option maxHeartbeats 8000000 in
set_option maxRecDepth 100000 in
theorem nil_owner (w : World) : Calls Try.prog 29 #[.pointer none, .int .i64 0] w fun e w' => e = .returned (.int .i64 0) ∧ w' = w := by
  go_enter Try.func29, Try.ntmps29
  go_wp2_with (go_at_call 31; refine (nil_many _).mono ?_; rintro e w2 ⟨rfl, rfl⟩)
  go_returns
  exact ⟨rfl, rfl⟩
set_option maxHeartbeats 8000000 in
set_option maxRecDepth 100000 in
theorem nil_take (w : World) : Calls Try.prog 27 #[.pointer none, .int .i64 1] w fun e w' => e = .returned (.tuple #[.int .i64 0, .bool false]) ∧ w' = w := by
  go_enter Try.func27, Try.ntmps27
  go_wp2
  go_returns
  exact ⟨rfl, rfl⟩
set_option maxHeartbeats 8000000 in
set_option maxRecDepth 100000 in
theorem new_no (a : Int) (h : a < 8 ∨ 96 < a) (w : World) : Calls Try.prog 25 #[.int .i64 a] w fun e w' => e = .returned (.tuple #[.pointer none, .int .i64 1]) ∧ w' = w := by
  by_cases h8 : a < 8
  · have d1 : decide (a < 8) = true := decide_eq_true h8
    clear h
    go_enter Try.func25, Try.ntmps25
    go_wp2
    go_returns
    exact ⟨rfl, rfl⟩
  · have d1 : decide (a < 8) = false := decide_eq_false h8
    have d2 : decide (a > 96) = true := decide_eq_true (by omega)
    have d3 : decide (96 < a) = true := decide_eq_true (by omega)
    clear h
    go_enter Try.func25, Try.ntmps25
    go_wp2
    go_returns
    exact ⟨rfl, rfl⟩

end Go.Proofs.Ytejeehcmcadmcaa.Hand
