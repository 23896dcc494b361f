/- RamPlays: the document's Take, whole; the program's calls, with how often bytes were touched; a RAM that isn't there. -/
import Derived.Test.YtoejchlelamhjaaN4
namespace Go.Proofs.Ytoejchlelamhjaa.Hand
set_option linter.unusedVariables false
set_option linter.unusedSimpArgs false
open Go.RowKit Go.Proofs.Ytoejchlelamhjaa.R Go.Proofs.Ytoejchlelamhjaa.Byt Go.Proofs.YtoejchlelamhjaaW.PrintWords Go.Proofs.YtoejchlelamhjaaW.PrintLast Go.Proofs.YtoejchlelamhjaaW.PrintMore

set_option maxHeartbeats 8000000 in
set_option maxRecDepth 100000 in
theorem x6_no {w0 w : World} {Q : Nat → Prop} {own wh : List Int} {L : List S83} {u0 u1 u3 : Value} (h : XF w w0.heap.size Q own wh L u0 u1 u3) (hB : Below w0.heap.size w0 w) (now owner : Int) (hO : own.length < 1000000) (hW : wh.length < 1000000) (hr : gunnyref05_Take.f 1001 own wh now owner = some (own, wh, now, 0, false)) :
    Calls Try.prog 34 #[.agg #[u0, u1, .int .i64 now, u3], .int .i64 owner] w fun e w' => e = .returned (.tuple #[.agg #[u0, u1, .int .i64 now, u3], .int .i64 0, .bool false]) ∧ Below w.heap.size w w' := by
  obtain ⟨A0, c0, A1, c1, A3, c3, e0, e1, e3, hR0, hR1, _⟩ := h.reads
  subst e0 e1 e3
  obtain ⟨W1, hW1⟩ : ∃ W1, W1 = (w.alloc (C57 (.slice A0 own.length c0) (.slice A1 wh.length c1) now (.slice A3 L.length c3))).alloc (C57 (.slice none 0 0) (.slice none 0 0) 0 (.slice none 0 0)) := ⟨_, rfl⟩
  have hb1 := below_alloc (below_alloc (Below.refl w.heap.size w) (C57 (.slice A0 own.length c0) (.slice A1 wh.length c1) now (.slice A3 L.length c3))) (C57 (.slice none 0 0) (.slice none 0 0) 0 (.slice none 0 0))
  have hx1 := blk_alloc (blk_new w (C57 (.slice A0 own.length c0) (.slice A1 wh.length c1) now (.slice A3 L.length c3))) (C57 (.slice none 0 0) (.slice none 0 0) 0 (.slice none 0 0))
  have hz1 := blk_new (w.alloc (C57 (.slice A0 own.length c0) (.slice A1 wh.length c1) now (.slice A3 L.length c3))) (C57 (.slice none 0 0) (.slice none 0 0) 0 (.slice none 0 0))
  rw [World.size_alloc] at hz1
  rw [← hW1] at hb1 hx1 hz1
  have hT := Aside0.mk (x5_no A0 c0 own A1 c1 wh now owner W1 (Kd.C_below hR0.2 hb1) hR0.1 (Kd.C_below hR1.2 hb1) hR1.1 hO hW hr)
  have hxB := Aside0.mk hx1
  have hzB := Aside0.mk hz1
  have hb1' := Aside0.mk hb1
  have x0 : W1.cell? ⟨w.heap.size, 0, none⟩ = some (.slice A0 own.length c0) := (blk_cell hx1 0).trans rfl
  have x1 : W1.cell? ⟨w.heap.size, 1, none⟩ = some (.slice A1 wh.length c1) := (blk_cell hx1 1).trans rfl
  have x2 : W1.cell? ⟨w.heap.size, 2, none⟩ = some (.int .i64 now) := (blk_cell hx1 2).trans rfl
  have hW1' := Aside0.mk hW1
  clear hb1 hx1 hz1 hr hW1 h hB hR0 hR1 hO hW
  go_enter Try.func34, Try.ntmps34
  go_upto_region 1 with (fail)
  rw [← hW1'.out]
  go_upto_region 3 with (go_at_call 42; refine hT.out.mono ?_; rintro e w2 ⟨rfl, hb2⟩; replace hb2 := Aside0.mk hb2)
  clear x0 x1 x2 hT
  have hb3 := Aside0.mk (below_alloc (below_step hb1'.out hb2.out) (C54 (.slice A0 own.length c0) (.slice A1 wh.length c1) now))
  have hx3 := blk_alloc (blk_below hxB.out hb2.out) (C54 (.slice A0 own.length c0) (.slice A1 wh.length c1) now)
  have hz3 := blk_alloc (blk_below hzB.out hb2.out) (C54 (.slice A0 own.length c0) (.slice A1 wh.length c1) now)
  clear hb2 hxB hzB
  generalize w2.alloc (C54 (.slice A0 own.length c0) (.slice A1 wh.length c1) now) = w3 at hb3 hx3 hz3 ⊢
  have f0 : w3.cell? ⟨w.heap.size, 0, none⟩ = some (.slice A0 own.length c0) := (blk_cell hx3 0).trans rfl
  have f1 : w3.cell? ⟨w.heap.size, 1, none⟩ = some (.slice A1 wh.length c1) := (blk_cell hx3 1).trans rfl
  have f2 : w3.cell? ⟨w.heap.size, 2, none⟩ = some (.int .i64 now) := (blk_cell hx3 2).trans rfl
  have f3 : w3.cell? ⟨w.heap.size, 3, none⟩ = some (.slice A3 L.length c3) := (blk_cell hx3 3).trans rfl
  have z0 : w3.cell? ⟨w.heap.size + 1, 0, none⟩ = some (.slice none 0 0) := (blk_cell hz3 0).trans rfl
  have z1 : w3.cell? ⟨w.heap.size + 1, 1, none⟩ = some (.slice none 0 0) := (blk_cell hz3 1).trans rfl
  have z2 : w3.cell? ⟨w.heap.size + 1, 2, none⟩ = some (.int .i64 0) := (blk_cell hz3 2).trans rfl
  have z3 : w3.cell? ⟨w.heap.size + 1, 3, none⟩ = some (.slice none 0 0) := (blk_cell hz3 3).trans rfl
  have zf := fun j => blk_frozen hz3 j
  have HZ := Aside0.mk (st4_blk hz3 (.slice A0 own.length c0) (.slice A1 wh.length c1) (.int .i64 now) (.slice A3 L.length c3))
  clear hx3 hz3
  go_wp2
  refine bodyPost_ret (results_row2 rfl _ _ (w.heap.size + 1) 57 _ (0, 0) _ rfl HZ.out.1 Try.underlying57 (by kernel_rfl)) rfl ?_
  exact ⟨rfl, hb3.out.trans (HZ.out.2.below hb3.out.size (fun k hk => by omega))⟩

/-! the program's calls -/
def qn (q : Int) (p : Prop) [Decidable p] : Int := if p then wrap64 (q + 1) else q
theorem read_q (base : Nat) (a : RA) (own F : List Int) (t : Int) (B : List Int) (q : Int) (n at_ size : Int) (w : World) (hq : RS w base a ⟨own, F, t, B, q⟩) {m f : Nat} (hg : Gd own F B m f) (hs : size < 9223372036854775808) :
    Calls Try.prog 11 #[.pointer (some ⟨a.g, 0, none⟩), .int .i64 n, .int .i64 at_, .int .i64 size] w fun e w' => ∃ A c, e = .returned (.tuple #[.slice A (part own B n at_ size).length c, .bool (decide (pk own n at_ size))]) ∧ RB w' w.heap.size (fun _ => True) (.slice A (part own B n at_ size).length c) (part own B n at_ size) ∧ RS w' base a ⟨own, F, t, B, qn q (pk own n at_ size)⟩ ∧ Far (fun k => k = a.g) w w' := by
  by_cases hp : pk own n at_ size
  · obtain ⟨x, y, z, rfl, rfl, rfl, h1, h2, h3, h4⟩ := pok_nat (s := ⟨own, F, t, B, q⟩) (hg.to t q) hp
    have hl := (hg.to t q).ok.len
    have h96 := (hg.to t q).m96
    have hB := (hg.to t q).B
    have hpart : part own B (x : Int) (y : Int) (z : Int) = (B.drop (4096 * x + y)).take z := by unfold part; rw [if_pos hp, Int.toNat_natCast, Int.toNat_natCast, Int.toNat_natCast]
    rw [hpart, decide_eq_true hp, show qn q (pk own (x : Int) (y : Int) (z : Int)) = wrap64 (q + 1) from if_pos hp]
    refine (read_yes base a ⟨own, F, t, B, q⟩ x y z w hq h1 h2 h3 (hB.trans (by rw [hl])) (by rw [hl]; exact h96)).mono ?_
    rintro e w' ⟨v, rfl, hr, hs, hf⟩
    obtain ⟨A, c, rfl⟩ := Kd.R_slice hr
    exact ⟨A, c, rfl, hr, hs, hf⟩
  · have hpart : part own B n at_ size = [] := by unfold part; rw [if_neg hp]
    rw [hpart, decide_eq_false hp, show qn q (pk own n at_ size) = q from if_neg hp]
    refine (read_no base a ⟨own, F, t, B, q⟩ n at_ size w hq hs hp).mono ?_
    rintro e w' ⟨v, rfl, hr, hb⟩
    obtain ⟨A, c, rfl⟩ := Kd.R_slice hr
    exact ⟨A, c, rfl, hr, hq.below hb, Far.of_below hb⟩
theorem write_q (base : Nat) (a : RA) (own F : List Int) (t : Int) (B : List Int) (q : Int) (n at_ : Int) (A : Option Addr) (c : Nat) (l : List Int) (w : World) (hq : RS w base a ⟨own, F, t, B, q⟩) {m f : Nat} (hg : Gd own F B m f) (hC : Kd.C (Kd.int .u8) w A l.length l) (hs : l.length < 9223372036854775808) (hA : ∀ ad, A = some ad → 0 < l.length → ad.block ≠ a.g) :
    Calls Try.prog 10 #[.pointer (some ⟨a.g, 0, none⟩), .int .i64 n, .int .i64 at_, .slice A l.length c] w fun e w' => e = .returned (.bool (decide (pk own n at_ (l.length : Int)))) ∧ RS w' base a ⟨own, F, t, wrB own B n at_ l, qn q (pk own n at_ (l.length : Int))⟩ ∧ Far (fun k => k = a.g ∨ k = a.b) w w' := by
  by_cases hp : pk own n at_ (l.length : Int)
  · obtain ⟨x, y, z, rfl, rfl, hz, h1, h2, h3, h4⟩ := pok_nat (s := ⟨own, F, t, B, q⟩) (hg.to t q) hp
    obtain rfl : z = l.length := by omega
    have hl := (hg.to t q).ok.len
    have h96 := (hg.to t q).m96
    have hB := (hg.to t q).B
    have hw : wrB own B (x : Int) (y : Int) l = over B (4096 * x + y) l := by unfold wrB; rw [if_pos hp, Int.toNat_natCast, Int.toNat_natCast]
    rw [hw, decide_eq_true hp, show qn q (pk own (x : Int) (y : Int) (l.length : Int)) = wrap64 (q + 1) from if_pos hp]
    exact write_yes base a ⟨own, F, t, B, q⟩ x y A c l w hq h1 h2 h3 (hB.trans (by rw [hl])) (by rw [hl]; exact h96) hC hA
  · have hw : wrB own B n at_ l = B := by unfold wrB; rw [if_neg hp]
    rw [hw, decide_eq_false hp, show qn q (pk own n at_ (l.length : Int)) = q from if_neg hp]
    refine (write_no base a ⟨own, F, t, B, q⟩ n at_ A l.length c w hq hs hp).mono ?_
    rintro e w' ⟨rfl, rfl⟩
    exact ⟨rfl, hq, Far.refl _ _⟩
/-- May a word be asked for? -/
def pw (own : List Int) (n i : Int) : Prop := (0 ≤ i ∧ i < 512) ∧ pk own n 0 1
instance (own : List Int) (n i : Int) : Decidable (pw own n i) := by unfold pw; infer_instance
theorem pw_pk {own : List Int} {n i : Int} (h : pw own n i) : pk own n (8 * i) 8 := ⟨h.2.1, by omega, by have := h.1; omega, by have := h.1; omega⟩
theorem pw_no {own : List Int} {n i : Int} (h : ¬ pw own n i) : i < 0 ∨ 512 ≤ i ∨ ¬ pk own n (8 * i) 8 := by
  by_cases h1 : i < 0
  · exact .inl h1
  by_cases h2 : 512 ≤ i
  · exact .inr (.inl h2)
  · exact .inr (.inr (fun hp => h ⟨by omega, hp.1, by omega, by omega, by omega⟩))
theorem word_q (base : Nat) (a : RA) (own F : List Int) (t : Int) (B : List Int) (q : Int) (n i : Int) (w : World) (hq : RS w base a ⟨own, F, t, B, q⟩) {m f : Nat} (hg : Gd own F B m f) :
    Calls Try.prog 15 #[.pointer (some ⟨a.g, 0, none⟩), .int .i64 n, .int .i64 i] w fun e w' => e = .returned (.tuple #[.int .u64 (if pw own n i then ((val (part own B n (8 * i) 8) : Nat) : Int) else 0), .bool (decide (pw own n i))]) ∧ RS w' base a ⟨own, F, t, B, qn q (pw own n i)⟩ ∧ Far (fun k => k = a.g) w w' := by
  by_cases hp : pw own n i
  · have hpk := pw_pk hp
    obtain ⟨x, y, z, rfl, hy, hz, h1, h2, h3, h4⟩ := pok_nat (s := ⟨own, F, t, B, q⟩) (hg.to t q) hpk
    obtain ⟨j, rfl⟩ : ∃ j : Nat, i = (j : Int) := ⟨i.toNat, by have := hp.1; omega⟩
    have hl := (hg.to t q).ok.len
    have h96 := (hg.to t q).m96
    have hB := (hg.to t q).B
    have hj := hp.1
    have hpart : part own B (x : Int) (8 * (j : Int)) 8 = (B.drop (4096 * x + 8 * j)).take 8 := by unfold part; rw [if_pos hpk, Int.toNat_natCast, show (8 * (j : Int)).toNat = 8 * j by omega]; rfl
    rw [if_pos hp, hpart, decide_eq_true hp, show qn q (pw own (x : Int) (j : Int)) = wrap64 (q + 1) from if_pos hp]
    exact getword_yes base a ⟨own, F, t, B, q⟩ x j w hq (by omega) h1 h2 (hB.trans (by rw [hl])) (by rw [hl]; exact h96) (hg.to t q).by_
  · rw [if_neg hp, decide_eq_false hp, show qn q (pw own n i) = q from if_neg hp]
    refine (getword_no base a ⟨own, F, t, B, q⟩ n i w hq (pw_no hp)).mono ?_
    rintro e w' ⟨rfl, hb⟩
    exact ⟨rfl, hq.below hb, Far.of_below hb⟩
theorem setword_q (base : Nat) (a : RA) (own F : List Int) (t : Int) (B : List Int) (q : Int) (n i x : Int) (w : World) (hq : RS w base a ⟨own, F, t, B, q⟩) {m f : Nat} (hg : Gd own F B m f) (h0 : 0 ≤ x) (hx : x < 18446744073709551616) :
    Calls Try.prog 18 #[.pointer (some ⟨a.g, 0, none⟩), .int .i64 n, .int .i64 i, .int .u64 x] w fun e w' => e = .returned (.bool (decide (pw own n i))) ∧ RS w' base a ⟨own, F, t, if pw own n i then wrB own B n (8 * i) (le 8 x.toNat) else B, qn q (pw own n i)⟩ ∧ Far (fun k => k = a.g ∨ k = a.b) w w' := by
  by_cases hp : pw own n i
  · have hpk := pw_pk hp
    obtain ⟨y, y', z, rfl, hy, hz, h1, h2, h3, h4⟩ := pok_nat (s := ⟨own, F, t, B, q⟩) (hg.to t q) hpk
    obtain ⟨j, rfl⟩ : ∃ j : Nat, i = (j : Int) := ⟨i.toNat, by have := hp.1; omega⟩
    have hl := (hg.to t q).ok.len
    have h96 := (hg.to t q).m96
    have hB := (hg.to t q).B
    have hj := hp.1
    have hw : wrB own B (y : Int) (8 * (j : Int)) (le 8 x.toNat) = over B (4096 * y + 8 * j) (le 8 x.toNat) := by
      unfold wrB
      rw [if_pos (by rw [le_length]; exact hpk), Int.toNat_natCast, show (8 * (j : Int)).toNat = 8 * j by omega]
    rw [if_pos hp, hw, decide_eq_true hp, show qn q (pw own (y : Int) (j : Int)) = wrap64 (q + 1) from if_pos hp]
    exact setword_yes base a ⟨own, F, t, B, q⟩ y j x w hq h0 hx (by omega) h1 h2 (hB.trans (by rw [hl])) (by rw [hl]; exact h96)
  · rw [if_neg hp, decide_eq_false hp, show qn q (pw own n i) = q from if_neg hp]
    refine (setword_no base a ⟨own, F, t, B, q⟩ n i x w hq h0 hx (pw_no hp)).mono ?_
    rintro e w' ⟨rfl, hb⟩
    exact ⟨rfl, hq.below hb, Far.of_below hb⟩
theorem take_q (base : Nat) (a : RA) (own F : List Int) (t : Int) (B : List Int) (q : Int) (owner : Int) (w : World) (hq : RS w base a ⟨own, F, t, B, q⟩) {m f : Nat} (hg : Gd own F B m f) :
    Calls Try.prog 9 #[.pointer (some ⟨a.g, 0, none⟩), .int .i64 owner] w fun e w' => ∃ A2 c2, e = .returned (.tuple #[.int .i64 (tk own F t owner).v, .bool (tk own F t owner).b]) ∧ RS w' base (a.at A2 c2) ⟨(tk own F t owner).own, (tk own F t owner).F, (tk own F t owner).t, (if (tk own F t owner).b then over B (4096 * (tk own F t owner).v.toNat) Zf else B), q⟩ ∧ Far (Rown a) w w' ∧ (∀ k, Rown (a.at A2 c2) k → Rown a k ∨ w.heap.size ≤ k) := by
  refine (ram_take base a ⟨own, F, t, B, q⟩ owner w hq (hg.to t q)).mono ?_
  rintro e w' ⟨A2, c2, he, hs, hf, hk⟩
  refine ⟨A2, c2, he, ?_, hf, hk⟩
  unfold rtk at hs
  cases hb : (tk own F t owner).b with
  | true =>
    rw [show (tk (RP.mk own F t B q).own (RP.mk own F t B q).F (RP.mk own F t B q).t owner).b = true from hb, if_pos rfl] at hs
    rw [if_pos rfl]
    exact hs
  | false =>
    rw [show (tk (RP.mk own F t B q).own (RP.mk own F t B q).F (RP.mk own F t B q).t owner).b = false from hb, if_neg Bool.false_ne_true] at hs
    rw [tk_no t owner hb, if_neg Bool.false_ne_true]
    exact hs
theorem give_q (base : Nat) (a : RA) (own F : List Int) (t : Int) (B : List Int) (q : Int) (n : Int) (w : World) (hq : RS w base a ⟨own, F, t, B, q⟩) {m f : Nat} (hg : Gd own F B m f) :
    Calls Try.prog 13 #[.pointer (some ⟨a.f, 0, none⟩), .int .i64 n] w fun e w' => ∃ A2 c2, e = .returned (.bool (gv own F t n).b) ∧ RS w' base (a.at A2 c2) ⟨(gv own F t n).own, (gv own F t n).F, (gv own F t n).t, B, q⟩ ∧ Far (Rown a) w w' ∧ (∀ k, Rown (a.at A2 c2) k → Rown a k ∨ w.heap.size ≤ k) := by
  refine (give_calls base a.f own F t a.o a.c0 a.A1 a.c1 n w hq.fs (hg.to t q).ok _ rfl).mono ?_
  rintro e w' ⟨A2, c2, he, hs, ho, hf, hk⟩
  refine ⟨A2, c2, he, ⟨hf.blk hq.blk hq.g_not, hs, Kd.R_step hq.bs (fun k hk hlt => hf.block k hlt (by rw [hk]; exact hq.b_not)), hq.ge⟩, hf.mono (fun k hk => .inr (.inr hk)), fun k hk' => ?_⟩
  rcases hk' with e | e | e
  · exact .inl (.inl e)
  · exact .inl (.inr (.inl e))
  · rcases hk k e with e | e
    · exact .inl (.inr (.inr e))
    · exact .inr e

/-! a RAM that isn't there -/
set_option maxHeartbeats 8000000 in
set_option maxRecDepth 100000 in
theorem nil_none (w : World) : Calls Try.prog 25 #[.pointer none] w fun e w' => e = .returned (.bool true) ∧ w' = w := by
  go_enter Try.func25, Try.ntmps25
  go_wp2
  go_returns
  exact ⟨rfl, rfl⟩
set_option maxHeartbeats 8000000 in
set_option maxRecDepth 100000 in
theorem nil_part (n at_ size : Int) (w : World) : Calls Try.prog 27 #[.pointer none, .int .i64 n, .int .i64 at_, .int .i64 size] w fun e w' => e = .returned (.tuple #[.slice none 0 0, .bool false]) ∧ w' = w := by
  go_enter Try.func27, Try.ntmps27
  go_wp2_with (go_at_call 25; refine (nil_none _).mono ?_; rintro e w2 ⟨rfl, rfl⟩)
  go_returns
  exact ⟨rfl, rfl⟩
set_option maxHeartbeats 8000000 in
set_option maxRecDepth 100000 in
theorem nil_touches (w : World) : Calls Try.prog 19 #[.pointer none] w fun e w' => e = .returned (.int .i64 0) ∧ w' = w := by
  go_enter Try.func19, Try.ntmps19
  go_wp2
  go_returns
  exact ⟨rfl, rfl⟩
set_option maxHeartbeats 8000000 in
set_option maxRecDepth 100000 in
theorem nil_rtake (w : World) : Calls Try.prog 9 #[.pointer none, .int .i64 1] w fun e w' => e = .returned (.tuple #[.int .i64 0, .bool false]) ∧ w' = w := by
  go_enter Try.func9, Try.ntmps9
  go_wp2_with (go_at_call 25; refine (nil_none _).mono ?_; rintro e w2 ⟨rfl, rfl⟩)
  go_returns
  exact ⟨rfl, rfl⟩
set_option maxHeartbeats 8000000 in
set_option maxRecDepth 100000 in
theorem nil_word (w : World) : Calls Try.prog 29 #[.pointer none, .int .i64 0, .int .i64 0] w fun e w' => e = .returned (.tuple #[.slice none 0 0, .bool false]) ∧ w' = w := by
  go_enter Try.func29, Try.ntmps29
  go_wp2_with (go_at_call 27; refine (nil_part _ _ _ _).mono ?_; rintro e w2 ⟨rfl, rfl⟩)
  go_returns
  exact ⟨rfl, rfl⟩
set_option maxHeartbeats 8000000 in
set_option maxRecDepth 100000 in
theorem nil_read (w : World) : Calls Try.prog 11 #[.pointer none, .int .i64 0, .int .i64 0, .int .i64 1] w fun e w' => ∃ A c, e = .returned (.tuple #[.slice A 0 c, .bool false]) ∧ Below w.heap.size w w' := by
  have hK := Aside0.mk (fun W => slices_Clone_byte_byte.calls none 0 [] [] W (Kd.C_nil _ _) (Nat.le_refl _) (by unfold slices_Clone_byte_byte.f; simp))
  go_enter Try.func11, Try.ntmps11
  go_wp2_with (first | (go_at_call 27; refine (nil_part _ _ _ _).mono ?_; rintro e w2 ⟨rfl, rfl⟩) | (go_at_call 28; refine (hK.out _).mono ?_; rintro e w3 ⟨v, rfl, hr, hb⟩; obtain ⟨A, c, rfl⟩ := Kd.R_slice hr; replace hb := Aside0.mk hb; clear hr))
  go_returns
  exact ⟨A, c, rfl, hb.out⟩
set_option maxHeartbeats 8000000 in
set_option maxRecDepth 100000 in
theorem nil_getword (w : World) : Calls Try.prog 15 #[.pointer none, .int .i64 0, .int .i64 0] w fun e w' => e = .returned (.tuple #[.int .u64 0, .bool false]) ∧ Below w.heap.size w w' := by
  have hG := Aside0.mk (fun W => num_Get.calls 100 none 0 [] 0 8 0 false W (Kd.C_nil _ _) (Nat.le_refl _) (nget_nil 100))
  go_enter Try.func15, Try.ntmps15
  go_wp2_with (first | (go_at_call 29; refine (nil_word _).mono ?_; rintro e w2 ⟨rfl, rfl⟩) | (go_at_call 30; refine (hG.out _).mono ?_; rintro e w3 ⟨rfl, hb⟩; replace hb := Aside0.mk hb))
  go_returns
  first | exact ⟨rfl, hb.out⟩ | exact ⟨rfl, hb.out.below⟩
set_option maxHeartbeats 8000000 in
set_option maxRecDepth 100000 in
theorem nil_write (w : World) : Calls Try.prog 10 #[.pointer none, .int .i64 0, .int .i64 0, .slice none 0 0] w fun e w' => e = .returned (.bool false) ∧ w' = w := by
  have hcp := fun W A n c => copy_nil W 3 A n c
  go_enter Try.func10, Try.ntmps10
  go_wp2_with (go_at_call 27; refine (nil_part _ _ _ _).mono ?_; rintro e w2 ⟨rfl, rfl⟩)
  go_returns
  exact ⟨rfl, rfl⟩
set_option maxHeartbeats 8000000 in
set_option maxRecDepth 100000 in
theorem nil_setword (w : World) : Calls Try.prog 18 #[.pointer none, .int .i64 0, .int .i64 0, .int .u64 1] w fun e w' => e = .returned (.bool false) ∧ Below w.heap.size w w' := by
  have hK := Aside0.mk (fun W => put_calls W 1 (by decide) (by decide))
  have hcp := fun W A n c => copy_nil W 3 A n c
  go_enter Try.func18, Try.ntmps18
  go_wp2_with (first | (go_at_call 29; refine (nil_word _).mono ?_; rintro e w2 ⟨rfl, rfl⟩) | (go_at_call 32; refine (hK.out _).mono ?_; rintro e w3 ⟨A, c, rfl, hC, hA, hb⟩; replace hb := Aside0.mk hb))
  go_returns
  exact ⟨rfl, hb.out⟩

end Go.Proofs.Ytoejchlelamhjaa.Hand
