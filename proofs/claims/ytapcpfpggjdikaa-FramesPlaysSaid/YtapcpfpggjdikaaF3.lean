/- frames' calls as functions of whose each frame is; lives. -/
import Derived.Test.YtapcpfpggjdikaaF2
namespace Go.Proofs.Ytapcpfpggjdikaa.Hand
set_option linter.unusedVariables false
set_option linter.unusedSimpArgs false
open Go.RowKit Go.Proofs.Ytapcpfpggjdikaa.R Go.Proofs.YtapcpfpggjdikaaW.PrintWords Go.Proofs.YtapcpfpggjdikaaW.PrintLast Go.Proofs.YtapcpfpggjdikaaW.PrintMore

/-- What is told of frames: all free ones are frames. -/
structure OK (own F : List Int) (n f : Nat) : Prop where
  len : own.length = n
  lim : n < 1000000
  most : F.length ≤ f
  few : f < 1000000
  are : ∀ x ∈ F, 0 ≤ x ∧ x < n
structure Res where
  own : List Int
  F : List Int
  t : Int
  v : Int
  b : Bool
def tk (own F : List Int) (t owner : Int) : Res := if F ≠ [] ∧ 1 ≤ owner ∧ owner ≤ 3 then ⟨own.set (F.getLastD 0).toNat owner, F.dropLast, wrap64 (t + 1), F.getLastD 0, true⟩ else ⟨own, F, t, 0, false⟩
def gv (own F : List Int) (t a : Int) : Res := if ownerOf own a ≠ 0 then ⟨own.set a.toNat 0, F ++ [a], wrap64 (t + 1), 0, true⟩ else ⟨own, F, t, 0, false⟩

theorem ownerOf_ne {own : List Int} {a : Int} (h : ownerOf own a ≠ 0) : 0 ≤ a ∧ a < own.length := by
  unfold ownerOf at h
  split at h
  · assumption
  · exact absurd rfl h
theorem OK.tk {own F : List Int} {n f : Nat} (h : OK own F n f) (t owner : Int) : OK (tk own F t owner).own (tk own F t owner).F n f := by
  unfold Hand.tk
  split
  · exact ⟨by simpa using h.len, h.lim, by have := h.most; simp; omega, h.few, fun x hx => h.are x (List.dropLast_subset _ hx)⟩
  · exact h
theorem OK.gv {own F : List Int} {n f : Nat} (h : OK own F n f) (hf : f + 1 < 1000000) (t a : Int) : OK (gv own F t a).own (gv own F t a).F n (f + 1) := by
  unfold Hand.gv
  split
  · rename_i hn
    have := ownerOf_ne hn
    have hl := h.len
    refine ⟨by simpa using h.len, h.lim, by have := h.most; simp; omega, hf, fun x hx => ?_⟩
    rcases List.mem_append.1 hx with hx | hx
    · exact h.are x hx
    · rw [List.mem_singleton.1 hx]; omega
  · exact ⟨h.len, h.lim, Nat.le_succ_of_le h.most, hf, h.are⟩

theorem take_calls (base g : Nat) (own F : List Int) (t : Int) (o c0 : Nat) (A1 : Option Addr) (c1 : Nat) (owner : Int) (w : World) (h : FS w base g own F t o c0 A1 c1) {n f : Nat} (hk : OK own F n f) (r : Res) (hr : r = tk own F t owner) :
    Calls Try.prog 9 #[.pointer (some ⟨g, 0, none⟩), .int .i64 owner] w fun e w' => ∃ A1 c1, e = .returned (.tuple #[.int .i64 r.v, .bool r.b]) ∧ FS w' base g r.own r.F r.t o c0 A1 c1 ∧ Only base w w' := by
  subst hr
  unfold tk
  split
  · rename_i hc
    obtain ⟨G, y, rfl⟩ : ∃ G y, F = G ++ [y] := ⟨F.dropLast, F.getLast hc.1, (List.dropLast_concat_getLast hc.1).symm⟩
    have hy := hk.are y (by simp)
    obtain ⟨x, rfl⟩ : ∃ x : Nat, y = (x : Int) := ⟨y.toNat, by omega⟩
    have hl := hk.len
    have h1 := hk.lim
    have h2 := hk.most
    have h3 := hk.few
    have hG : (G ++ [(x : Int)]).length = G.length + 1 := by simp
    have e1 : (G ++ [(x : Int)]).getLastD 0 = (x : Int) := by simp
    have e2 : (G ++ [(x : Int)]).dropLast = G := by simp
    rw [e1, e2, Int.toNat_natCast]
    exact (take_yes base g own G x t o c0 A1 c1 owner w h (by omega) (by omega) (by omega) hc.2.1 hc.2.2).mono fun e w' ⟨a, b, c⟩ => ⟨A1, c1, a, b, c⟩
  · rename_i hc
    refine (take_no base g own F t o c0 A1 c1 owner w h ?_).mono fun e w' ⟨a, b⟩ => ⟨A1, c1, a, h.below b, Only.of_below b h.gt⟩
    by_cases hF : F = []
    · exact .inl hF
    · by_cases h1 : owner ≤ 0
      · exact .inr (.inl h1)
      · exact .inr (.inr (by
          by_cases h3 : owner ≤ 3
          · exact absurd ⟨hF, by omega, h3⟩ hc
          · omega))
theorem give_calls (base g : Nat) (own F : List Int) (t : Int) (o c0 : Nat) (A1 : Option Addr) (c1 : Nat) (a : Int) (w : World) (h : FS w base g own F t o c0 A1 c1) {n f : Nat} (hk : OK own F n f) (r : Res) (hr : r = gv own F t a) :
    Calls Try.prog 8 #[.pointer (some ⟨g, 0, none⟩), .int .i64 a] w fun e w' => ∃ A1 c1, e = .returned (.bool r.b) ∧ FS w' base g r.own r.F r.t o c0 A1 c1 ∧ Only base w w' := by
  subst hr
  unfold gv
  split
  · rename_i hn
    have hb := ownerOf_ne hn
    obtain ⟨x, rfl⟩ : ∃ x : Nat, a = (x : Int) := ⟨a.toNat, by omega⟩
    have hl := hk.len
    have h1 := hk.lim
    have h2 := hk.most
    have h3 := hk.few
    have e : ownerOf own (x : Int) = own.getD x 0 := by unfold ownerOf; rw [if_pos (by omega)]; rfl
    rw [e] at hn
    exact give_yes base g own F x t o c0 A1 c1 w h (by omega) hn (by omega) (by omega)
  · rename_i hn
    exact (give_no base g own F t o c0 A1 c1 a w h (by simpa using hn)).mono fun e w' ⟨x, y⟩ => ⟨A1, c1, x, h.below y, Only.of_below y h.gt⟩

/-! Owner, quietly -/
set_option maxHeartbeats 8000000 in
set_option maxRecDepth 100000 in
theorem many_q (base g : Nat) (own F : List Int) (t : Int) (o c0 : Nat) (A1 : Option Addr) (c1 : Nat) (w : World) (h : FS w base g own F t o c0 A1 c1) :
    Calls Try.prog 13 #[.pointer (some ⟨g, 0, none⟩)] w fun e w' => e = .returned (.int .i64 (own.length : Int)) ∧ w' = w := by
  have k0 : w.cell? ⟨g, 0, none⟩ = some (.slice (some ⟨o, 0, none⟩) own.length c0) := (blk_cell h.blk 0).trans rfl
  clear h
  go_enter Try.func13, Try.ntmps13
  go_wp2
  go_returns
  exact ⟨rfl, rfl⟩
set_option maxHeartbeats 8000000 in
set_option maxRecDepth 100000 in
theorem owner_q (base g : Nat) (own F : List Int) (t : Int) (o c0 : Nat) (A1 : Option Addr) (c1 : Nat) (a : Int) (w : World) (h : FS w base g own F t o c0 A1 c1) :
    Calls Try.prog 11 #[.pointer (some ⟨g, 0, none⟩), .int .i64 a] w fun e w' => e = .returned (.int .i64 (ownerOf own a)) ∧ w' = w := by
  have k0 : w.cell? ⟨g, 0, none⟩ = some (.slice (some ⟨o, 0, none⟩) own.length c0) := (blk_cell h.blk 0).trans rfl
  unfold ownerOf
  by_cases h0 : a < 0
  · have d1 : decide (a < 0) = true := decide_eq_true h0
    rw [if_neg (by omega)]
    clear h
    go_enter Try.func11, Try.ntmps11
    go_wp2
    go_returns
    exact ⟨rfl, rfl⟩
  have d1 : decide (a < 0) = false := decide_eq_false h0
  obtain ⟨x, rfl⟩ : ∃ x : Nat, a = (x : Int) := ⟨a.toNat, by omega⟩
  by_cases h1 : x < own.length
  · have d2 : decide ((own.length : Int) ≤ (x : Int)) = false := decide_eq_false (by omega)
    have d3 : decide ((x : Int) < (own.length : Int)) = true := decide_eq_true (by omega)
    have d4 : decide (x < own.length) = true := decide_eq_true h1
    have d5 : decide (own.length ≤ x) = false := decide_eq_false (by omega)
    rw [if_pos (by omega)]
    obtain ⟨ko, _⟩ := Kd.R_celln (0 : Int) h.r0 (x : Int) (by omega) (by omega)
    have e : rdOf (0 : Int) own (x : Int) = own.getD (x : Int).toNat 0 := rfl
    rw [e, Int.toNat_natCast] at ko
    rw [Int.toNat_natCast]
    replace h := Aside0.mk h
    go_enter Try.func11, Try.ntmps11
    go_wp2_with (go_at_call 13; refine (many_q base g own F t o c0 A1 c1 _ h.out).mono ?_; rintro e w2 ⟨rfl, rfl⟩)
    go_returns
    exact ⟨by simp [h1], rfl⟩
  · have d2 : decide ((own.length : Int) ≤ (x : Int)) = true := decide_eq_true (by omega)
    have d5 : decide (own.length ≤ x) = true := decide_eq_true (by omega)
    rw [if_neg (by omega)]
    replace h := Aside0.mk h
    go_enter Try.func11, Try.ntmps11
    go_wp2_with (go_at_call 13; refine (many_q base g own F t o c0 A1 c1 _ h.out).mono ?_; rintro e w2 ⟨rfl, rfl⟩)
    go_returns
    exact ⟨rfl, rfl⟩

/-! Count -/
theorem rd_at (l : List Int) (i : Nat) (h : i < l.length) : rd l (i : Int) = l[i] := by
  unfold rd
  simp [h]
theorem w64s (x : Nat) (h : x < 9223372036854775807) : wrap64 ((x : Int) + 1) = ((x + 1 : Nat) : Int) := by unfold wrap64; omega
theorem index_l0 (l : List Int) (hl : l.length < 9223372036854775807) (x : Int) (d : Nat) : ∀ (k i : Nat), i + d = l.length → d < k →
    ∃ r, slices_Index_int_int.l0 k l x (l.length : Int) (i : Int) = some r ∧ (decide (r ≥ 0) = (l.drop i).contains x) := by
  induction d with
  | zero =>
    intro k i hi hk
    obtain ⟨k, rfl⟩ : ∃ m, k = m + 1 := ⟨k - 1, by omega⟩
    simp only [slices_Index_int_int.l0]
    rw [if_neg (by omega), List.drop_eq_nil_of_le (by omega)]
    exact ⟨-1, rfl, rfl⟩
  | succ d ih =>
    intro k i hi hk
    obtain ⟨k, rfl⟩ : ∃ m, k = m + 1 := ⟨k - 1, by omega⟩
    have hil : i < l.length := by omega
    simp only [slices_Index_int_int.l0]
    rw [if_pos (by omega), if_pos (by omega), if_pos (by omega), rd_at l i hil, w64s i (by omega), List.drop_eq_getElem_cons hil]
    by_cases hx : x = l[i]
    · rw [if_pos hx]
      refine ⟨_, rfl, ?_⟩
      rw [decide_eq_true (by omega), List.contains_cons, hx]
      simp
    · rw [if_neg hx]
      obtain ⟨r, h1, h2⟩ := ih k (i + 1) (by omega) (by omega)
      refine ⟨r, h1, ?_⟩
      rw [h2, List.contains_cons, beq_eq_false_iff_ne.mpr hx, Bool.false_or]
theorem contains_some (k : Nat) (l : List Int) (hl : l.length < 9223372036854775807) (x : Int) (hk : l.length < k) : slices_Contains_int_int.f k l x = some (l.contains x) := by
  obtain ⟨r, h1, h2⟩ := index_l0 l hl x l.length k 0 (by omega) hk
  unfold slices_Contains_int_int.f slices_Index_int_int.f
  rw [show ((0 : Nat) : Int) = 0 from rfl] at h1
  rw [h1, Option.bind_some, h2, List.drop_zero]
/-- How many of the first are of owners. -/
def cnt (own ow : List Int) (i : Nat) : Nat := ((own.take i).filter (fun x => ow.contains x)).length
theorem cnt_succ (own ow : List Int) (i : Nat) (h : i < own.length) : cnt own ow (i + 1) = cnt own ow i + (if ow.contains own[i] then 1 else 0) := by
  unfold cnt
  rw [List.take_succ_eq_append_getElem h, List.filter_append, List.length_append, List.filter_cons]
  split <;> simp
theorem cnt_le (own ow : List Int) (i : Nat) : cnt own ow i ≤ i := Nat.le_trans (List.length_filter_le _ _) (by rw [List.length_take]; omega)
theorem count_l0 (own F ow : List Int) (t : Int) (hO : own.length < 1000000) (hl : ow.length < 1000000) (d : Nat) : ∀ (k i : Nat), i + d = own.length → ow.length + d + 1 < k →
    frames_Frames_Count.l0 k ow ((cnt own ow i : Nat) : Int) (own.length : Int) (i : Int) own F t = some (((cnt own ow own.length : Nat) : Int), t) := by
  induction d with
  | zero =>
    intro k i hi hk
    obtain ⟨k, rfl⟩ : ∃ m, k = m + 1 := ⟨k - 1, by omega⟩
    simp only [frames_Frames_Count.l0]
    rw [if_neg (by omega), show i = own.length by omega]
  | succ d ih =>
    intro k i hi hk
    obtain ⟨k, rfl⟩ : ∃ m, k = m + 1 := ⟨k - 1, by omega⟩
    have hil : i < own.length := by omega
    have hc := cnt_le own ow i
    have s := cnt_succ own ow i hil
    have r := ih k (i + 1) (by omega) (by omega)
    simp only [frames_Frames_Count.l0]
    rw [if_pos (by omega), if_pos (by omega), if_pos (by omega), rd_at own i hil, contains_some k ow (by omega) own[i] (by omega), Option.bind_some, w64s i (by omega), w64s _ (by omega)]
    by_cases hm : ow.contains own[i] = true
    · rw [if_pos hm] at s ⊢
      rw [← s]
      exact r
    · rw [if_neg hm] at s ⊢
      rw [s, Nat.add_zero] at r
      exact r
theorem count_calls (base g : Nat) (own F : List Int) (t : Int) (o c0 : Nat) (A1 : Option Addr) (c1 : Nat) (A : Option Addr) (c : Nat) (ow : List Int) (w : World) (h : FS w base g own F t o c0 A1 c1) (hO : own.length < 1000000) (hC : Kd.C (Kd.int .i64) w A ow.length ow) (hc : ow.length ≤ c) (hl : ow.length < 1000000) (hf : ∀ ad, A = some ad → 0 < ow.length → ad.block ≠ g) :
    Calls Try.prog 10 #[.pointer (some ⟨g, 0, none⟩), .slice A ow.length c] w fun e w' => e = .returned (.int .i64 ((cnt own ow own.length : Nat) : Int)) ∧ Below w.heap.size w w' := by
  have hs : frames_Frames_Count.f (ow.length + own.length + 2) own F t ow = some (((cnt own ow own.length : Nat) : Int), t) := by
    unfold frames_Frames_Count.f
    rw [many_some, Option.bind_some]
    have := count_l0 own F ow t hO hl own.length (ow.length + own.length + 2) 0 (by omega) (by omega)
    exact this
  exact (frames_Frames_Count.calls _ g own F t A c ow _ _ w w h.is (Below.refl _ _) hC hc hf hs).mono fun e w' ⟨he, _, hb, _⟩ => ⟨he, hb⟩

/-! lives -/
theorem OK.new (n : Nat) (h : n < 1000000) : OK (List.replicate n 0) (dn n 0) n n := by
  refine ⟨by simp, h, by rw [dn_length]; omega, h, fun x hx => ?_⟩
  unfold dn at hx
  obtain ⟨i, hi, rfl⟩ := List.mem_map.1 hx
  have := List.mem_range.1 hi
  omega
theorem lives_1 : tk (List.replicate 8 0) (dn 8 0) 0 1 = ⟨[1, 0, 0, 0, 0, 0, 0, 0], [7, 6, 5, 4, 3, 2, 1], 1, 0, true⟩ := by kernel_rfl
theorem lives_2 : tk [1, 0, 0, 0, 0, 0, 0, 0] [7, 6, 5, 4, 3, 2, 1] 1 2 = ⟨[1, 2, 0, 0, 0, 0, 0, 0], [7, 6, 5, 4, 3, 2], 2, 1, true⟩ := by kernel_rfl
theorem lives_3 : gv [1, 2, 0, 0, 0, 0, 0, 0] [7, 6, 5, 4, 3, 2] 2 0 = ⟨[0, 2, 0, 0, 0, 0, 0, 0], [7, 6, 5, 4, 3, 2, 0], 3, 0, true⟩ := by kernel_rfl
theorem lives_4 : tk [0, 2, 0, 0, 0, 0, 0, 0] [7, 6, 5, 4, 3, 2, 0] 3 3 = ⟨[3, 2, 0, 0, 0, 0, 0, 0], [7, 6, 5, 4, 3, 2], 4, 0, true⟩ := by kernel_rfl
set_option maxHeartbeats 8000000 in
set_option maxRecDepth 100000 in
theorem lives_calls (w : World) : Calls Try.prog 6 #[] w fun e w' => e = .returned (.bool true) ∧ Below w.heap.size w w' := by
  have K0 := OK.new 8 (by omega)
  have K1 := K0.tk 0 1
  rw [lives_1] at K1
  have K2 := K1.tk 1 2
  rw [lives_2] at K2
  have K3 := K2.gv (by omega) 2 0
  rw [lives_3] at K3
  replace K0 := Aside0.mk K0
  replace K1 := Aside0.mk K1
  replace K2 := Aside0.mk K2
  replace K3 := Aside0.mk K3
  go_enter Try.func6, Try.ntmps6
  go_upto_region 2 with (go_at_call 7; refine (new_calls 8 (by omega) (by omega) _).mono ?_; rintro e w1 ⟨g, o, c0, A1, c1, rfl, hs, hb⟩; replace hs := Aside0.mk hs; have hO := Aside0.mk hb; clear hb)
  go_upto_region 3 with (go_at_call 9; refine (take_calls w.heap.size g _ _ 0 o c0 A1 c1 1 _ hs.out K0.out _ lives_1.symm).mono ?_; rintro e w2 ⟨A2, c2, rfl, hs2, hO2⟩; replace hs2 := Aside0.mk hs2; replace hO2 := Aside0.mk (hO.out.trans hO2.below); clear hs hO)
  go_upto_region 4 with (go_at_call 9; refine (take_calls w.heap.size g _ _ 1 o c0 A2 c2 2 _ hs2.out K1.out _ lives_2.symm).mono ?_; rintro e w3 ⟨A3, c3, rfl, hs3, hO3⟩; replace hs3 := Aside0.mk hs3; replace hO3 := Aside0.mk (hO2.out.trans hO3.below); clear hs2 hO2)
  go_upto_region 5 with (go_at_call 8; refine (give_calls w.heap.size g _ _ 2 o c0 A3 c3 0 _ hs3.out K2.out _ lives_3.symm).mono ?_; rintro e w4 ⟨A4, c4, rfl, hs4, hO4⟩; replace hs4 := Aside0.mk hs4; replace hO4 := Aside0.mk (hO3.out.trans hO4.below); clear hs3 hO3)
  go_wp2_with (go_at_call 9; refine (take_calls w.heap.size g _ _ 3 o c0 A4 c4 3 _ hs4.out K3.out _ lives_4.symm).mono ?_; rintro e w5 ⟨A5, c5, rfl, hs5, hO5⟩; replace hs5 := Aside0.mk hs5; replace hO5 := Aside0.mk (hO4.out.trans hO5.below); clear hs4 hO4)
  go_returns
  exact ⟨rfl, hO5.out⟩

end Go.Proofs.Ytapcpfpggjdikaa.Hand
