/- RamNew, walked; the example. -/
import Derived.Test.YtoejchlelamhjaaM3
import Derived.Test.YtoejchlelamhjaaOpens
namespace Go.Proofs.Ytoejchlelamhjaa.Hand
set_option linter.unusedVariables false
set_option linter.unusedSimpArgs false
open Go.RowKit Go.Proofs.Ytoejchlelamhjaa.R Go.Proofs.Ytoejchlelamhjaa.Byt Go.Proofs.YtoejchlelamhjaaW.PrintWords Go.Proofs.YtoejchlelamhjaaW.PrintLast Go.Proofs.YtoejchlelamhjaaW.PrintMore

def Z8 : List Int := List.replicate (4096 * 8) 0
theorem over_zeros (n p m : Nat) (h : p + m ≤ n) : over (List.replicate n 0) p (List.replicate m 0) = List.replicate n 0 := by
  unfold over
  rw [List.take_replicate, List.drop_replicate, List.length_replicate, List.replicate_append_replicate, List.replicate_append_replicate]
  congr 1
  omega
def s1 : RP := ⟨[1, 0, 0, 0, 0, 0, 0, 0], [7, 6, 5, 4, 3, 2, 1], 1, Z8, 0⟩
theorem rtk_s0 : rtk s0 1 = s1 := by
  unfold rtk
  rw [tk_s0, if_pos rfl]
  show RP.mk _ _ _ (over (List.replicate (4096 * 8) 0) (4096 * (0 : Int).toNat) (List.replicate 4096 0)) _ = s1
  rw [over_zeros _ _ _ (by decide)]
  rfl
theorem word7 : wordOf (over Z8 (4096 * 0 + 8) [7]) 0 1 = 7 := by
  have : ((over Z8 8 [7]).drop 8).take 8 = [7, 0, 0, 0, 0, 0, 0, 0] := by
    unfold over Z8
    rw [List.append_assoc, List.drop_append_of_le_length (by rw [List.length_take, List.length_replicate]; decide), List.drop_of_length_le (by rw [List.length_take, List.length_replicate]; decide), List.nil_append, List.drop_replicate]
    show List.take (7 + 1) (7 :: List.replicate _ 0) = _
    rw [List.take_succ_cons, List.take_replicate]
    rfl
  unfold wordOf
  rw [show 4096 * 0 + 8 * 1 = 8 from rfl, this]
  rfl
def s2 : RP := { s1 with q := wrap64 (s1.q + 1), B := over s1.B (4096 * 0 + 8) [7] }
theorem word7' : wordOf s2.B 0 1 = 7 := word7
theorem s1B : s1.B.length = 4096 * 8 := List.length_replicate
theorem s2B : s2.B.length = 4096 * 8 := by
  have := over_length s1.B (4096 * 0 + 8) [7] (by rw [s1B]; decide)
  exact this.trans s1B
theorem s2by : isBytes s2.B := isBytes_over (isBytes_zeros _) (fun x hx => by rw [List.mem_singleton.1 hx]; omega) _
theorem lives_write (base : Nat) (b : RA) (w : World) (A : Option Addr) (h : RS w base b s1) (hC : Kd.C (Kd.int .u8) w A 1 [7]) (hA : ∀ ad, A = some ad → ad.block ≠ b.g) :
    Calls Try.prog 10 #[.pointer (some ⟨b.g, 0, none⟩), .int .i64 0, .int .i64 8, .slice A 1 1] w fun e w' => e = .returned (.bool true) ∧ RS w' base b s2 ∧ Far (fun k => k = b.g ∨ k = b.b) w w' :=
  write_yes base b s1 0 8 A 1 [7] w h (by decide) (by decide) (by decide) s1B (by decide) hC (fun ad ha _ => hA ad ha)
theorem lives_word (base : Nat) (b : RA) (w : World) (h : RS w base b s2) :
    Calls Try.prog 15 #[.pointer (some ⟨b.g, 0, none⟩), .int .i64 0, .int .i64 1] w fun e w' => e = .returned (.tuple #[.int .u64 7, .bool true]) ∧ Far (fun k => k = b.g) w w' := by
  have := getword_yes base b s2 0 1 w h (by decide) (by decide) (by decide) s2B (by decide) s2by
  rw [word7'] at this
  exact this.mono fun e w' ⟨a, b, c⟩ => ⟨a, c⟩
set_option maxHeartbeats 8000000 in
set_option maxRecDepth 100000 in
theorem lives_calls (w : World) : Calls Try.prog 7 #[] w fun e w' => e = .returned (.bool true) ∧ Below w.heap.size w w' := by
  have hG : RG s1 8 8 := by have := (RG.new 8 (by omega)).take 1; rw [show (⟨List.replicate 8 0, dn 8 0, 0, List.replicate (4096 * 8) 0, 0⟩ : RP) = s0 from rfl, rtk_s0] at this; exact this
  replace hG := Aside0.mk hG
  have htk := tk_s0
  have hrtk := Aside0.mk rtk_s0
  go_enter Try.func7, Try.ntmps7
  go_upto_region 4 with (go_at_call 8; refine (ram_new 8 (by omega) (by omega) _).mono ?_; rintro e w1 ⟨a, rfl, hs, hb⟩; have hs1 := Aside0.mk (show RS w1 w.heap.size a s0 from hs); clear hs; replace hb := Aside0.mk hb)
  have hT := ram_take w.heap.size a s0 1 w1 hs1.out (RG.new 8 (by omega))
  rw [tk_s0, rtk_s0] at hT
  replace hT := Aside0.mk hT
  clear htk
  go_upto_region 5 with (go_at_call 9; refine hT.out.mono ?_; rintro e w2 ⟨A2, c2, rfl, hs2, hf2, hk2⟩; replace hs2 := Aside0.mk hs2; replace hf2 := Aside0.mk hf2)
  obtain ⟨b, hbd⟩ : ∃ b, b = a.at A2 c2 := ⟨_, rfl⟩
  have hbg : a.g = b.g := by rw [hbd]; rfl
  rw [← hbd] at hs2
  rw [hbg]
  clear hbd hbg
  have hb2 := Aside0.mk (hb.out.trans (hf2.out.below hb.out.size (fun k hk => (hs1.out.own_lt k hk).1)))
  have hal := Aside0.mk (hs2.out.below (below_alloc (Below.refl _ _) (.cells #[.int .u8 7] 5 (0, 0))))
  have hW := Aside0.mk (lives_write w.heap.size b _ (some ⟨w2.heap.size, 0, none⟩) hal.out (lit7 w2) (fun ad ha e => by
    injection ha with ha
    subst ha
    have := (hs2.out.own_lt _ (.inl rfl)).2
    rw [← e] at this
    exact absurd this (Nat.lt_irrefl _)))
  have hba := Aside0.mk (below_then hb2.out hb2.out.size (below_alloc (Below.refl _ _) (.cells #[.int .u8 7] 5 (0, 0))))
  go_upto_region 6 with (go_at_call 10; refine hW.out.mono ?_; rintro e w3 ⟨rfl, hs3, hf3⟩; replace hs3 := Aside0.mk hs3; replace hf3 := Aside0.mk hf3)
  have hb3 := Aside0.mk (hba.out.trans (hf3.out.below (B := w.heap.size) hba.out.size (fun k hk => by rcases hk with rfl | rfl; exact (hs2.out.own_lt _ (.inl rfl)).1; exact (hs2.out.own_lt _ (.inr (.inl rfl))).1)))
  have hQ := Aside0.mk (lives_word w.heap.size b w3 hs3.out)
  go_wp2_with (go_at_call 15; refine hQ.out.mono ?_; rintro e w4 ⟨rfl, hf4⟩; replace hf4 := Aside0.mk hf4)
  go_returns
  exact ⟨rfl, hb3.out.trans (hf4.out.below hb3.out.size (fun k hk => by rw [hk]; exact (hs3.out.own_lt _ (.inl rfl)).1))⟩

/-! RamNew -/
theorem ownerOf_zeros (m : Nat) (n : Int) : ownerOf (List.replicate m 0) n = 0 := by
  unfold ownerOf
  split
  · rw [List.getD_eq_getElem?_getD, List.getElem?_replicate]
    split <;> rfl
  · rfl
theorem cnt_zeros (m : Nat) : cnt (List.replicate m 0) [0] (List.replicate m (0 : Int)).length = m := by
  unfold cnt
  rw [List.take_length, List.filter_eq_self.2 (fun x hx => by rw [(List.mem_replicate.1 hx).2]; rfl), List.length_replicate]
theorem lit0 (w : World) : Kd.C (Kd.int .i64) (w.alloc (.cells #[.int .i64 0] 3 (0, 0))) (some ⟨w.heap.size, 0, none⟩) 1 [0] := CopyAt.lit_C w .i64 [0] #[.int .i64 0] 3 (0, 0) rfl (by simp)
def deedV (k n at_ size x : Int) (A : Option Addr) (len c : Nat) : Array Value := #[.int .i64 k, .int .i64 n, .int .i64 at_, .int .i64 size, .int .u64 x, .slice A len c]
theorem deed_cells {w : World} {g : Nat} {k n at_ size x : Int} {A : Option Addr} {len c : Nat} (h : w.heap[g]? = some (.cells (deedV k n at_ size x A len c) 26 (0, 0))) :
    w.cell? ⟨g, 1, none⟩ = some (.int .i64 n) ∧ w.cell? ⟨g, 2, none⟩ = some (.int .i64 at_) ∧ w.cell? ⟨g, 3, none⟩ = some (.int .i64 size) ∧ w.cell? ⟨g, 4, none⟩ = some (.int .u64 x) ∧ w.cell? ⟨g, 5, none⟩ = some (.slice A len c) :=
  ⟨(blk_cell h 1).trans rfl, (blk_cell h 2).trans rfl, (blk_cell h 3).trans rfl, (blk_cell h 4).trans rfl, (blk_cell h 5).trans rfl⟩
set_option maxHeartbeats 8000000 in
set_option maxRecDepth 100000 in
theorem new_law (many k n at_ size x : Int) (A : Option Addr) (len c : Nat) (w : World) (hsz : size < 9223372036854775808) (hx0 : 0 ≤ x) (hx1 : x < 18446744073709551616) :
    Calls Try.prog 4 #[.int .i64 many, .agg (deedV k n at_ size x A len c)] w fun e w' => e = .returned (.bool true) ∧ Below w.heap.size w w' := by
  have hb0 := blk_new w (.cells (deedV k n at_ size x A len c) 26 (0, 0))
  obtain ⟨k1, k2, k3, k4, k5⟩ := deed_cells hb0
  have hba := Aside0.mk (below_alloc (Below.refl _ w) (.cells (deedV k n at_ size x A len c) 26 (0, 0)))
  replace hb0 := Aside0.mk hb0
  unfold deedV at *
  by_cases hl : 5000 < len
  · have d1 : decide ((len : Int) > 5000) = true := decide_eq_true (by omega)
    have d2 : decide (5000 < (len : Int)) = true := decide_eq_true (by omega)
    have d3 : decide (5000 < len) = true := decide_eq_true hl
    clear hsz hx0 hx1
    go_enter Try.func4, Try.ntmps4
    go_wp2_with (go_at_call 7; refine (lives_calls _).mono ?_; rintro e w2 ⟨rfl, hb⟩; replace hb := Aside0.mk hb)
    go_returns
    exact ⟨rfl, below_step hba.out hb.out⟩
  have d1 : decide ((len : Int) > 5000) = false := decide_eq_false (by omega)
  have d2 : decide (5000 < (len : Int)) = false := decide_eq_false (by omega)
  have d3 : decide (5000 < len) = false := decide_eq_false hl
  by_cases hm : many < 8 ∨ 96 < many
  · have hN := Aside0.mk (ram_new_no many hm (w.alloc (.cells #[.int .i64 k, .int .i64 n, .int .i64 at_, .int .i64 size, .int .u64 x, .slice A len c] 26 (0, 0))))
    by_cases h8 : many < 8
    · have f1 : decide (many < 8) = true := decide_eq_true h8
      clear hm hl hsz hx0 hx1
      go_enter Try.func4, Try.ntmps4
      go_wp2_with (first | (go_at_call 8; refine hN.out.mono ?_; rintro e w2 ⟨rfl, rfl⟩) | (go_at_call 7; refine (lives_calls _).mono ?_; rintro e w3 ⟨rfl, hb⟩; replace hb := Aside0.mk hb))
      go_returns
      exact ⟨rfl, below_step hba.out hb.out⟩
    · have f1 : decide (many < 8) = false := decide_eq_false h8
      have f2 : decide (many > 96) = true := decide_eq_true (by omega)
      have f3 : decide (96 < many) = true := decide_eq_true (by omega)
      clear hm hl hsz hx0 hx1
      go_enter Try.func4, Try.ntmps4
      go_wp2_with (first | (go_at_call 8; refine hN.out.mono ?_; rintro e w2 ⟨rfl, rfl⟩) | (go_at_call 7; refine (lives_calls _).mono ?_; rintro e w3 ⟨rfl, hb⟩; replace hb := Aside0.mk hb))
      go_returns
      exact ⟨rfl, below_step hba.out hb.out⟩
  obtain ⟨m, rfl⟩ : ∃ m : Nat, many = (m : Int) := ⟨many.toNat, by omega⟩
  have f1 : decide ((m : Int) < 8) = false := decide_eq_false (by omega)
  have f2 : decide ((m : Int) > 96) = false := decide_eq_false (by omega)
  have f3 : decide (96 < (m : Int)) = false := decide_eq_false (by omega)
  have f4 : decide (m < 8) = false := decide_eq_false (by omega)
  have f5 : decide (96 < m) = false := decide_eq_false (by omega)
  have hN := Aside0.mk (ram_new m (by omega) (by omega) (w.alloc (.cells #[.int .i64 k, .int .i64 n, .int .i64 at_, .int .i64 size, .int .u64 x, .slice A len c] 26 (0, 0))))
  have hl' := Aside0.mk (show len < 9223372036854775808 by omega)
  have hm' := Aside0.mk (show m < 1000000 by omega)
  replace hsz := Aside0.mk hsz
  replace hx0 := Aside0.mk hx0
  replace hx1 := Aside0.mk hx1
  clear hm hl
  go_enter Try.func4, Try.ntmps4
  go_upto_region 8 with (go_at_call 8; refine hN.out.mono ?_; rintro e w1 ⟨a, rfl, hs, hb⟩; have hs1 := Aside0.mk hs; clear hs; replace hb := Aside0.mk hb)
  obtain ⟨st, hst⟩ : ∃ st : RP, st = ⟨List.replicate m 0, dn m 0, 0, List.replicate (4096 * m) 0, 0⟩ := ⟨_, rfl⟩
  rw [← hst] at hs1
  obtain ⟨B, hB⟩ : ∃ B, B = (w.alloc (.cells #[.int .i64 k, .int .i64 n, .int .i64 at_, .int .i64 size, .int .u64 x, .slice A len c] 26 (0, 0))).heap.size := ⟨_, rfl⟩
  rw [← hB] at hs1
  have hno : ∀ i j q, ¬ pok st i j q := fun i j q h => h.1 (by rw [hst]; exact ownerOf_zeros m i)
  have hq0 : st.q = 0 := by rw [hst]
  have hown : st.own = List.replicate m 0 := by rw [hst]
  clear hst hN
  replace hno := Aside0.mk hno
  replace hown := Aside0.mk hown
  replace hq0 := Aside0.mk hq0
  have hbx1 := Aside0.mk (blk_below hb0.out hb.out)
  have hbb := Aside0.mk (below_step hba.out hb.out)
  replace hB := Aside0.mk hB
  obtain ⟨k1, k2, k3, k4, k5⟩ := deed_cells hbx1.out
  have hR := Aside0.mk (read_no B a st n at_ size w1 hs1.out hsz.out (hno.out _ _ _))
  go_upto_region 9 with (go_at_call 11; refine hR.out.mono ?_; rintro e w2 ⟨v, rfl, hr, hb2⟩; replace hb2 := Aside0.mk hb2; obtain ⟨Av, cv, rfl⟩ := Kd.R_slice hr; clear hr)
  have hs2 := Aside0.mk (hs1.out.below hb2.out)
  have hbx2 := Aside0.mk (blk_below hbx1.out hb2.out)
  have hbb2 := Aside0.mk (below_step hbb.out hb2.out)
  clear k1 k2 k3 k4 k5
  obtain ⟨k1, k2, k3, k4, k5⟩ := deed_cells hbx2.out
  have hG := Aside0.mk (getword_no B a st n at_ w2 hs2.out (.inr (.inr (hno.out _ _ _))))
  go_upto_region 10 with (go_at_call 15; refine hG.out.mono ?_; rintro e w3 ⟨rfl, hb3⟩; replace hb3 := Aside0.mk hb3)
  have hs3 := Aside0.mk (hs2.out.below hb3.out)
  have hbx3 := Aside0.mk (blk_below hbx2.out hb3.out)
  have hbb3 := Aside0.mk (below_step hbb2.out hb3.out)
  clear k1 k2 k3 k4 k5
  have k0 : w3.cell? ⟨a.g, 0, none⟩ = some (.pointer (some ⟨a.f, 0, none⟩)) := (blk_cell hs3.out.blk 0).trans rfl
  have hM := many_q B a.f st.own st.F st.t a.o a.c0 a.A1 a.c1 w3 hs3.out.fs
  rw [hown.out, List.length_replicate] at hM
  replace hM := Aside0.mk hM
  have hs4 := Aside0.mk (hs3.out.below (below_alloc (Below.refl _ w3) (.cells #[.int .i64 0] 3 (0, 0))))
  have hbb4 := Aside0.mk (below_alloc hbb3.out (.cells #[.int .i64 0] 3 (0, 0)))
  have hbx4 := Aside0.mk (blk_alloc hbx3.out (.cells #[.int .i64 0] 3 (0, 0)))
  have hCt := count_calls B a.f st.own st.F st.t a.o a.c0 a.A1 a.c1 (some ⟨w3.heap.size, 0, none⟩) 1 [0] _ hs4.out.fs (by rw [hown.out, List.length_replicate]; exact hm'.out) (lit0 w3) (by decide) (by decide)
  rw [hown.out, cnt_zeros] at hCt
  replace hCt := Aside0.mk hCt
  go_wp2_with (first
    | (go_at_call 16; refine hM.out.mono ?_; rintro e w4 ⟨rfl, rfl⟩)
    | (go_at_call 17; refine hCt.out.mono ?_; rintro e w5 ⟨rfl, hb5⟩; have hs5 := Aside0.mk (hs4.out.below hb5); have hbx5 := Aside0.mk (blk_below hbx4.out hb5); have hbb5 := Aside0.mk (below_then hbb4.out hbb4.out.size hb5); clear hb5; obtain ⟨k1, k2, k3, k4, k5⟩ := deed_cells hbx5.out)
    | (go_at_call 10; refine (write_no B a st n at_ A len c _ hs5.out hl'.out (hno.out _ _ _)).mono ?_; rintro e w6 ⟨rfl, rfl⟩)
    | (go_at_call 18; refine (setword_no B a st n at_ x _ hs5.out hx0.out hx1.out (.inr (.inr (hno.out _ _ _)))).mono ?_; rintro e w7 ⟨rfl, hb7⟩; have hs7 := Aside0.mk (hs5.out.below hb7); have hbb7 := Aside0.mk (below_step hbb5.out hb7); clear hb7)
    | (go_at_call 19; refine (touches_q B a st _ hs7.out).mono ?_; rintro e w8 ⟨rfl, rfl⟩; rw [hq0.out])
    | (go_at_call 7; refine (lives_calls _).mono ?_; rintro e w9 ⟨rfl, hb9⟩; have hbb9 := Aside0.mk (below_step hbb7.out hb9); clear hb9))
  go_returns
  exact ⟨rfl, hbb9.out⟩

/-! a deed as it came in -/
def DeedWf (x : S26) : Prop := (Lit.int .i64 x.f0).wf = true ∧ (Lit.int .i64 x.f1).wf = true ∧ (Lit.int .i64 x.f2).wf = true ∧ (Lit.int .i64 x.f3).wf = true ∧ (Lit.int .u64 x.f4).wf = true ∧ x.f5.length ≤ maxLen ∧ ∀ b ∈ x.f5, (Lit.int .u8 b).wf = true
theorem opens_deed : Opens.Opens Try.prog k26 26 DeedWf := by
  have h := Opens.opens_iso (f := fun x : S26 => (x.f0, x.f1, x.f2, x.f3, x.f4, x.f5)) (fun a => (⟨a.1, a.2.1, a.2.2.1, a.2.2.2.1, a.2.2.2.2.1, a.2.2.2.2.2⟩ : S26)) (fun a => rfl)
    (Opens.opens_struct Try.underlying26 (by kernel_rfl) (Opens.opensF_cons rfl (Opens.opens_int Try.underlying3 (by kernel_rfl)) (Opens.opensF_cons rfl (Opens.opens_int Try.underlying3 (by kernel_rfl)) (Opens.opensF_cons rfl (Opens.opens_int Try.underlying3 (by kernel_rfl)) (Opens.opensF_cons rfl (Opens.opens_int Try.underlying3 (by kernel_rfl)) (Opens.opensF_cons rfl (Opens.opens_int Try.underlying23 (by kernel_rfl)) (Opens.opensF_one rfl (Opens.opens_slice Try.underlying24 (by kernel_rfl) (Opens.opens_int Try.underlying5 (by kernel_rfl))))))))))
  exact h
theorem new_walk (W : World) (many : Int) (wm : (Lit.int .i64 many).wf = true) (a : Array Value) (y : S26) (hK : k26.K W y a.toList) (hR : DeedWf y) :
    Calls Try.prog 4 #[.int .i64 many, .agg a] W fun e w' => e = .returned (.bool true) ∧ Below W.heap.size W w' := by
  obtain ⟨A, c, e, hc, hC⟩ := k26_open hK
  obtain rfl : a = deedV y.f0 y.f1 y.f2 y.f3 y.f4 A y.f5.length c := Array.ext' e
  have h3 := bounds_i64 hR.2.2.2.1
  have h4 := bounds_u64 hR.2.2.2.2.1
  exact new_law many y.f0 y.f1 y.f2 y.f3 y.f4 A y.f5.length c W (by omega) (by omega) (by omega)

end Go.Proofs.Ytoejchlelamhjaa.Hand
