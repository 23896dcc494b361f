/- RamPlays: a deed on both, walked, an arm a theorem (written by mkN6.py). -/
import Derived.Test.YtoejchlelamhjaaN5
import Derived.Deep.QuietTactic
import Derived.BigQuiet
import Derived.Deep.RegionHeld3
import Derived.Deep.RegionLaw
namespace Go.Proofs.Ytoejchlelamhjaa.Hand
set_option linter.unusedVariables false
set_option linter.unusedSimpArgs false
open Go.RowKit Go.Proofs.Ytoejchlelamhjaa.R Go.Proofs.Ytoejchlelamhjaa.Byt Go.Proofs.YtoejchlelamhjaaW.PrintWords Go.Proofs.YtoejchlelamhjaaW.PrintLast Go.Proofs.YtoejchlelamhjaaW.PrintMore

abbrev C26 (k n at_ size x : Int) (A : Option Addr) (len c : Nat) : Obj := .cells #[.int .i64 k, .int .i64 n, .int .i64 at_, .int .i64 size, .int .u64 x, .slice A len c] 26 (0, 0)
theorem bytes_self (b : List Int) : gunnyref01_Bytes.f b b = some true := by unfold gunnyref01_Bytes.f; simp
/-- Both frames' bytes in memory, beside each other. -/
structure ST (w0 w : World) (a : RA) (own F : List Int) (t : Int) (B : List Int) (q : Int) (wh : List Int) (now : Int) (L : List S83) (u0 u1 u3 : Value) (m i : Nat) : Prop where
  rs : RS w w0.heap.size a ⟨own, F, t, B, q⟩
  xf : XF w w0.heap.size (Rown a) own wh L u0 u1 u3
  pi : PI own F wh now B L m (m + i)
  bel : Below w0.heap.size w0 w
  now : now ≤ m + i
  len : L.length ≤ i
  m96 : m ≤ 96
  i60 : i ≤ 60
theorem ST.gd {w0 w : World} {a : RA} {own F : List Int} {t : Int} {B : List Int} {q : Int} {wh : List Int} {now : Int} {L : List S83} {u0 u1 u3 : Value} {m i : Nat} (h : ST w0 w a own F t B q wh now L u0 u1 u3 m i) : Gd own F B m (m + i) := h.pi.gd h.m96
theorem ST.below {w0 w w' : World} {a : RA} {own F : List Int} {t : Int} {B : List Int} {q : Int} {wh : List Int} {now : Int} {L : List S83} {u0 u1 u3 : Value} {m i : Nat} (h : ST w0 w a own F t B q wh now L u0 u1 u3 m i) (hb : Below w.heap.size w w') : ST w0 w' a own F t B q wh now L u0 u1 u3 m i :=
  ⟨h.rs.below hb, h.xf.below hb, h.pi, h.bel.trans (hb.mono h.bel.size), h.now, h.len, h.m96, h.i60⟩
theorem ST.own_len {w0 w : World} {a : RA} {own F : List Int} {t : Int} {B : List Int} {q : Int} {wh : List Int} {now : Int} {L : List S83} {u0 u1 u3 : Value} {m i : Nat} (h : ST w0 w a own F t B q wh now L u0 u1 u3 m i) : own.length = m ∧ wh.length = m := ⟨h.pi.wi.ok.len, h.pi.wi.wlen⟩
/-- What a deed leaves and tells. -/
def Did (w0 w : World) (a0 : RA) (u0 u1 : Value) (q : Int) (m i : Nat) (e : Ending) (w' : World) : Prop := Far (fun k => Rown a0 k ∨ (some k = u0.ownBlock ∨ some k = u1.ownBlock)) w w' ∧ ∃ (a : RA) (own F : List Int) (t : Int) (B : List Int) (q' : Int) (wh : List Int) (now : Int) (L : List S83) (A0 A1 A3 : Option Addr) (c0 c1 c3 : Nat) (b : Bool),
  e = .returned (.tuple #[.agg #[.slice A0 own.length c0, .slice A1 wh.length c1, .int .i64 now, .slice A3 L.length c3], .bool b, .bool true]) ∧ q' = (if b then wrap64 (q + 1) else q) ∧ (a.g = a0.g ∧ a.f = a0.f) ∧ ST w0 w' a own F t B q' wh now L (.slice A0 own.length c0) (.slice A1 wh.length c1) (.slice A3 L.length c3) m i
theorem Did.of {w0 w w' : World} {a a0 : RA} {own F : List Int} {t : Int} {B : List Int} {q q' : Int} {wh : List Int} {now : Int} {L : List S83} {u0 u1 u3 x0 x1 : Value} {m i : Nat} {b : Bool} (h : ST w0 w' a own F t B q' wh now L u0 u1 u3 m i ∧ Far (fun k => Rown a0 k ∨ (some k = x0.ownBlock ∨ some k = x1.ownBlock)) w w') (hq : q' = (if b then wrap64 (q + 1) else q)) (hg : a.g = a0.g ∧ a.f = a0.f) :
    Did w0 w a0 x0 x1 q m i (.returned (.tuple #[.agg #[u0, u1, .int .i64 now, u3], .bool b, .bool true])) w' := by
  obtain ⟨A0, c0, A1, c1, A3, c3, rfl, rfl, rfl, _⟩ := h.1.xf.reads
  exact ⟨h.2, a, own, F, t, B, q', wh, now, L, A0, A1, A3, c0, c1, c3, b, rfl, hq, hg, h.1⟩
/-- The three boxes of a deed. -/
def Qb (a : RA) (b : Nat) (k : Nat) : Prop := Rown a k ∨ (b ≤ k ∧ k < b + 3)
theorem XF.mono {w : World} {base : Nat} {Q Q' : Nat → Prop} {own wh : List Int} {L : List S83} {u0 u1 u3 : Value} (h : XF w base Q own wh L u0 u1 u3) (hQ : ∀ k, Q' k → Q k) : XF w base Q' own wh L u0 u1 u3 :=
  ⟨Kd.R_mono h.r0 (fun k hk => ⟨fun e => hk.1 (hQ k e), hk.2⟩), Kd.R_mono h.r1 (fun k hk => ⟨fun e => hk.1 (hQ k e), hk.2⟩), Kd.V_mono h.r3 (fun k hk => ⟨fun e => hk.1 (hQ k e), hk.2⟩)⟩
theorem XF.move {w w' : World} {base : Nat} {Q Q' S : Nat → Prop} {own wh : List Int} {L : List S83} {u0 u1 u3 : Value} (h : XF w base Q own wh L u0 u1 u3) (f : Far S w w') (hS : ∀ k, S k → Q k) (hk : ∀ k, Q' k → Q k ∨ w.heap.size ≤ k) : XF w' base Q' own wh L u0 u1 u3 := by
  have hn : ∀ k, ¬ Q k → k < w.heap.size → ¬ Q' k := fun k h1 h2 h3 => (hk k h3).elim h1 (fun h4 => by omega)
  exact ⟨Kd.R_mono (Kd.R_step (Kd.R_bound h.r0) (fun k hk hlt => f.block k hlt (fun hs => hk.1.1 (hS k hs)))) (fun k hk => ⟨hn k hk.1.1 hk.2.2.1, hk.1.2⟩), Kd.R_mono (Kd.R_step (Kd.R_bound h.r1) (fun k hk hlt => f.block k hlt (fun hs => hk.1.1 (hS k hs)))) (fun k hk => ⟨hn k hk.1.1 hk.2.2.1, hk.1.2⟩), Kd.V_mono (Kd.V_step (Kd.V_bound h.r3) (fun k hk hlt => f.block k hlt (fun hs => hk.1.1 (hS k hs)))) (fun k hk => ⟨hn k hk.1.1 hk.2, hk.1.2⟩)⟩
/-- Behind the program's call, and the result's cells laid. -/
theorem ST.done {w0 w w3 w4 w5 : World} {a a' : RA} {own F : List Int} {t : Int} {B : List Int} {q : Int} {wh : List Int} {now : Int} {L : List S83} {u0 u1 u3 : Value} {m i z : Nat} {S PT : Nat → Prop} (hT : Far PT w w3) (rs : RS w4 w0.heap.size a' ⟨own, F, t, B, q⟩) (xf : XF w3 w0.heap.size (Qb a w.heap.size) own wh L u0 u1 u3) (bel : Below w0.heap.size w0 w3) (f4 : Far S w3 w4) (hS : ∀ k, S k → Rown a k) (hk : ∀ k, Rown a' k → Rown a k ∨ w3.heap.size ≤ k) (hge : ∀ k, Rown a k → w0.heap.size ≤ k)
    (pi : PI own F wh now B L m (m + i)) (hn : now ≤ m + i) (hl : L.length ≤ i) (hm : m ≤ 96) (h60 : i ≤ 60) (hf : Far (fun k => k = z) w4 w5) (hz1 : w.heap.size ≤ z) (hz2 : z < w.heap.size + 3) (hz3 : z < w3.heap.size) (hb : w0.heap.size ≤ w.heap.size) (hr : ¬ Rown a z) : ST w0 w5 a' own F t B q wh now L u0 u1 u3 m i ∧ Far (fun k => Rown a k ∨ PT k) w w5 := by
  have hr' : ¬ Rown a' z := fun h => (hk z h).elim hr (fun e => by omega)
  have x4 : XF w4 w0.heap.size (Qb a' w.heap.size) own wh L u0 u1 u3 := xf.move f4 (fun k h => .inl (hS k h)) (fun k h => by
    rcases h with e | e
    · rcases hk k e with e | e
      · exact .inl (.inl e)
      · exact .inr e
    · exact .inl (.inr e))
  have b4 : Below w0.heap.size w0 w4 := bel.trans (f4.below bel.size (fun k h => hge k (hS k h)))
  refine ⟨⟨rs.stay hf (fun k h e => hr' (by rw [← e]; exact h)), (x4.stay hf (fun k e => .inr (by rw [e]; exact ⟨hz1, hz2⟩))).mono (fun k h => .inl h), pi, b4.trans (hf.below b4.size (fun k e => by rw [e]; omega)), hn, hl, hm, h60⟩, ?_⟩
  exact ((hT.mono (fun k h => .inr h)).trans f4 (fun k h => .inl (.inl (hS k h)))).trans hf (fun k e => .inr (by rw [e]; exact hz1))

set_option maxHeartbeats 16000000 in
set_option maxRecDepth 100000 in
theorem step_take_no {w0 w : World} {a : RA} {own F : List Int} {t : Int} {B : List Int} {q : Int} {wh : List Int} {now : Int} {L : List S83} {A0 A1 A3 : Option Addr} {c0 c1 c3 m i : Nat} (h : ST w0 w a own F t B q wh now L (.slice A0 own.length c0) (.slice A1 wh.length c1) (.slice A3 L.length c3) m i) (hi : i < 60)
    (d : S26) (A5 : Option Addr) (c5 : Nat) (hD : DeedWf d) (hDC : Kd.C (Kd.int .u8) w0 A5 d.f5.length d.f5) (hDc : d.f5.length ≤ c5) (hk : d.f0 = 0) (hno : ¬ (F ≠ [] ∧ 1 ≤ d.f1 ∧ d.f1 ≤ 3)) :
    Calls Try.prog 21 #[.pointer (some ⟨a.g, 0, none⟩), .agg #[.slice A0 own.length c0, .slice A1 wh.length c1, .int .i64 now, .slice A3 L.length c3], .agg #[.int .i64 d.f0, .int .i64 d.f1, .int .i64 d.f2, .int .i64 d.f3, .int .u64 d.f4, .slice A5 d.f5.length c5]] w fun e w' => Did w0 w a (.slice A0 own.length c0) (.slice A1 wh.length c1) q m (i + 1) e w' := by
  obtain ⟨W1, hW1⟩ : ∃ W1, W1 = ((w.alloc (C57 (.slice A0 own.length c0) (.slice A1 wh.length c1) now (.slice A3 L.length c3))).alloc (C26 d.f0 d.f1 d.f2 d.f3 d.f4 A5 d.f5.length c5)).alloc (C57 (.slice none 0 0) (.slice none 0 0) 0 (.slice none 0 0)) := ⟨_, rfl⟩
  have hb1 := below_alloc (below_alloc (below_alloc (Below.refl w.heap.size w) (C57 (.slice A0 own.length c0) (.slice A1 wh.length c1) now (.slice A3 L.length c3))) (C26 d.f0 d.f1 d.f2 d.f3 d.f4 A5 d.f5.length c5)) (C57 (.slice none 0 0) (.slice none 0 0) 0 (.slice none 0 0))
  have hx1 := blk_alloc (blk_alloc (blk_new w (C57 (.slice A0 own.length c0) (.slice A1 wh.length c1) now (.slice A3 L.length c3))) (C26 d.f0 d.f1 d.f2 d.f3 d.f4 A5 d.f5.length c5)) (C57 (.slice none 0 0) (.slice none 0 0) 0 (.slice none 0 0))
  have hy1 := blk_alloc (blk_new (w.alloc (C57 (.slice A0 own.length c0) (.slice A1 wh.length c1) now (.slice A3 L.length c3))) (C26 d.f0 d.f1 d.f2 d.f3 d.f4 A5 d.f5.length c5)) (C57 (.slice none 0 0) (.slice none 0 0) 0 (.slice none 0 0))
  have hz1 := blk_new ((w.alloc (C57 (.slice A0 own.length c0) (.slice A1 wh.length c1) now (.slice A3 L.length c3))).alloc (C26 d.f0 d.f1 d.f2 d.f3 d.f4 A5 d.f5.length c5)) (C57 (.slice none 0 0) (.slice none 0 0) 0 (.slice none 0 0))
  rw [World.size_alloc] at hy1
  rw [World.size_alloc, World.size_alloc] at hz1
  rw [← hW1] at hb1 hx1 hy1 hz1
  have hgw := (h.rs.own_lt a.g (.inl rfl)).2
  have h1 := h.below hb1
  obtain ⟨bx, hbx⟩ : ∃ bx, bx = w.heap.size := ⟨_, rfl⟩
  obtain ⟨W, hW⟩ : ∃ W, W = W1 := ⟨_, rfl⟩
  have x0 : W.cell? ⟨w.heap.size, 0, none⟩ = some (.slice A0 own.length c0) := by rw [hW]; exact (blk_cell hx1 0).trans rfl
  have x1 : W.cell? ⟨w.heap.size, 1, none⟩ = some (.slice A1 wh.length c1) := by rw [hW]; exact (blk_cell hx1 1).trans rfl
  have x2 : W.cell? ⟨w.heap.size, 2, none⟩ = some (.int .i64 now) := by rw [hW]; exact (blk_cell hx1 2).trans rfl
  have x3 : W.cell? ⟨w.heap.size, 3, none⟩ = some (.slice A3 L.length c3) := by rw [hW]; exact (blk_cell hx1 3).trans rfl
  have y0 : W.cell? ⟨w.heap.size + 1, 0, none⟩ = some (.int .i64 d.f0) := by rw [hW]; exact (blk_cell hy1 0).trans rfl
  have y1 : W.cell? ⟨w.heap.size + 1, 1, none⟩ = some (.int .i64 d.f1) := by rw [hW]; exact (blk_cell hy1 1).trans rfl
  have y2 : W.cell? ⟨w.heap.size + 1, 2, none⟩ = some (.int .i64 d.f2) := by rw [hW]; exact (blk_cell hy1 2).trans rfl
  have y3 : W.cell? ⟨w.heap.size + 1, 3, none⟩ = some (.int .i64 d.f3) := by rw [hW]; exact (blk_cell hy1 3).trans rfl
  have y4 : W.cell? ⟨w.heap.size + 1, 4, none⟩ = some (.int .u64 d.f4) := by rw [hW]; exact (blk_cell hy1 4).trans rfl
  have y5 : W.cell? ⟨w.heap.size + 1, 5, none⟩ = some (.slice A5 d.f5.length c5) := by rw [hW]; exact (blk_cell hy1 5).trans rfl
  have hWW := Aside0.mk (hW.trans hW1)
  rw [← hW] at hb1 hx1 hy1 hz1 h1
  clear hW1 hW
  clear W1
  have hX := Aside0.mk ((h.xf.at (Q' := Qb a w.heap.size) (Nat.le_refl _) (fun k hk => hk.imp id (fun e => e.1))).below hb1)
  have hR1 := Aside0.mk h1.rs
  have hQ1 := Aside0.mk (show ∀ k, Qb a w.heap.size k → k < W.heap.size from fun k hk => by
    rcases hk with e | e
    · exact (h1.rs.own_lt k e).2
    · have := blk_lt hz1; omega)
  have hRn := Aside0.mk (show ∀ k, w.heap.size ≤ k → ¬ Rown a k from fun k hk hr => by have := (h.rs.own_lt k hr).2; omega)
  have hgt := Aside0.mk h.bel.size
  have hge := Aside0.mk (fun k hk => (h.rs.own_lt k hk).1)
  have hnl := Aside0.mk (And.intro h.now h.len)
  replace hb1 := Aside0.mk hb1
  replace hx1 := Aside0.mk hx1
  replace hy1 := Aside0.mk hy1
  replace hz1 := Aside0.mk hz1
  replace h1 := Aside0.mk h1
  replace hgw := Aside0.mk hgw
  have hc := Aside0.mk (And.intro h.m96 h.i60)
  have hol := Aside0.mk h.own_len
  replace hDC := Aside0.mk hDC
  replace hDc := Aside0.mk hDc
  replace hD := Aside0.mk hD
  replace hi := Aside0.mk hi
  replace h := Aside0.mk h
  have hrT := rTake h.out.pi.wi d.f1 (by have := hc.out.1; omega)
  rw [if_neg hno] at hrT
  have htk : tk own F t d.f1 = ⟨own, F, t, 0, false⟩ := by unfold tk; rw [if_neg hno]
  have hT := Aside0.mk (x6_no hX.out h1.out.bel now d.f1 (by have := hol.out.1; have := hc.out.1; omega) (by have := hol.out.2; have := hc.out.1; omega) hrT)
  have hP := fun W hW => take_q w0.heap.size a own F t B q d.f1 W hW h.out.gd
  rw [htk] at hP
  replace hP := Aside0.mk hP
  clear hno hrT htk
  have e0 : (d.f0 == 0) = true := beq_iff_eq.mpr hk
  clear hk
  go_enter Try.func21, Try.ntmps21
  go_upto_region 1 with (fail)
  rw [← hWW.out]
  go_upto_region 4 with (go_at_call 34; refine hT.out.mono ?_; rintro e w2 ⟨rfl, hb2⟩; replace hb2 := Aside0.mk hb2)
  have hb3 := Aside0.mk (below_alloc hb2.out (C57 (.slice A0 own.length c0) (.slice A1 wh.length c1) now (.slice A3 L.length c3)))
  have hg3 := Aside0.mk (blk_new w2 (C57 (.slice A0 own.length c0) (.slice A1 wh.length c1) now (.slice A3 L.length c3)))
  obtain ⟨gy, hgy⟩ : ∃ gy, gy = w2.heap.size := ⟨_, rfl⟩
  have hgy2 := Aside0.mk (show w.heap.size ≤ gy by rw [hgy]; exact Nat.le_trans hb1.out.size hb2.out.size)
  rw [← hgy] at hg3 ⊢
  clear hgy hb2
  generalize w2.alloc (C57 (.slice A0 own.length c0) (.slice A1 wh.length c1) now (.slice A3 L.length c3)) = w3 at hb3 hg3 ⊢
  clear x0 x1 x2 x3 y0 y1 y2 y3 y4 y5
  have y1 : w3.cell? ⟨w.heap.size + 1, 1, none⟩ = some (.int .i64 d.f1) := (blk_cell (blk_below hy1.out hb3.out) 1).trans rfl
  have hP3 := Aside0.mk (hP.out w3 (hR1.out.below hb3.out))
  go_upto_region 5 with (go_at_call 9; refine hP3.out.mono ?_; rintro e w4 ⟨A6, c6, rfl, hs4, hf4, hk4⟩; replace hs4 := Aside0.mk hs4; replace hf4 := Aside0.mk hf4; replace hk4 := Aside0.mk hk4)
  have hz4 := hf4.out.blk (blk_below hz1.out hb3.out) (hRn.out _ (by omega))
  have hg4 := hf4.out.blk hg3.out (hRn.out _ hgy2.out)
  have g0 : w4.cell? ⟨gy, 0, none⟩ = some (.slice A0 own.length c0) := (blk_cell hg4 0).trans rfl
  have g1 : w4.cell? ⟨gy, 1, none⟩ = some (.slice A1 wh.length c1) := (blk_cell hg4 1).trans rfl
  have g2 : w4.cell? ⟨gy, 2, none⟩ = some (.int .i64 now) := (blk_cell hg4 2).trans rfl
  have g3 : w4.cell? ⟨gy, 3, none⟩ = some (.slice A3 L.length c3) := (blk_cell hg4 3).trans rfl
  have z0 : w4.cell? ⟨w.heap.size + 1 + 1, 0, none⟩ = some (.slice none 0 0) := (blk_cell hz4 0).trans rfl
  have z1 : w4.cell? ⟨w.heap.size + 1 + 1, 1, none⟩ = some (.slice none 0 0) := (blk_cell hz4 1).trans rfl
  have z2 : w4.cell? ⟨w.heap.size + 1 + 1, 2, none⟩ = some (.int .i64 0) := (blk_cell hz4 2).trans rfl
  have z3 : w4.cell? ⟨w.heap.size + 1 + 1, 3, none⟩ = some (.slice none 0 0) := (blk_cell hz4 3).trans rfl
  have zf := fun j => blk_frozen hz4 j
  have HZ := Aside0.mk (st4_blk hz4 (.slice A0 own.length c0) (.slice A1 wh.length c1) (.int .i64 now) (.slice A3 L.length c3))
  clear hz4 hg4 y1
  go_wp2
  refine bodyPost_ret (results_row2 rfl _ _ (w.heap.size + 1 + 1) 57 _ (0, 0) _ rfl HZ.out.1 Try.underlying57 (by kernel_rfl)) rfl ?_
  exact Did.of (ST.done (Far.of_below (below_step hb1.out hb3.out)) hs4.out (hX.out.below hb3.out) (below_step h1.out.bel hb3.out) hf4.out (fun k h => h) hk4.out hge.out (h.out.pi.more (by have := hc.out; have := hi.out; omega)) (by have := hnl.out; omega) (by have := hnl.out; omega) hc.out.1 (by have := hi.out; omega) HZ.out.2 (by omega) (by omega) (by have := blk_lt hz1.out; have := hb3.out.size; omega) hgt.out (hRn.out _ (by omega))) rfl ⟨rfl, rfl⟩

set_option maxHeartbeats 16000000 in
set_option maxRecDepth 100000 in
theorem step_take_yes {w0 w : World} {a : RA} {own F : List Int} {t : Int} {B : List Int} {q : Int} {wh : List Int} {now : Int} {L : List S83} {A0 A1 A3 : Option Addr} {c0 c1 c3 m i : Nat} (h : ST w0 w a own F t B q wh now L (.slice A0 own.length c0) (.slice A1 wh.length c1) (.slice A3 L.length c3) m i) (hi : i < 60)
    (d : S26) (A5 : Option Addr) (c5 : Nat) (hD : DeedWf d) (hDC : Kd.C (Kd.int .u8) w0 A5 d.f5.length d.f5) (hDc : d.f5.length ≤ c5) (hk : d.f0 = 0) (hyes : F ≠ [] ∧ 1 ≤ d.f1 ∧ d.f1 ≤ 3) :
    Calls Try.prog 21 #[.pointer (some ⟨a.g, 0, none⟩), .agg #[.slice A0 own.length c0, .slice A1 wh.length c1, .int .i64 now, .slice A3 L.length c3], .agg #[.int .i64 d.f0, .int .i64 d.f1, .int .i64 d.f2, .int .i64 d.f3, .int .u64 d.f4, .slice A5 d.f5.length c5]] w fun e w' => Did w0 w a (.slice A0 own.length c0) (.slice A1 wh.length c1) q m (i + 1) e w' := by
  obtain ⟨W1, hW1⟩ : ∃ W1, W1 = ((w.alloc (C57 (.slice A0 own.length c0) (.slice A1 wh.length c1) now (.slice A3 L.length c3))).alloc (C26 d.f0 d.f1 d.f2 d.f3 d.f4 A5 d.f5.length c5)).alloc (C57 (.slice none 0 0) (.slice none 0 0) 0 (.slice none 0 0)) := ⟨_, rfl⟩
  have hb1 := below_alloc (below_alloc (below_alloc (Below.refl w.heap.size w) (C57 (.slice A0 own.length c0) (.slice A1 wh.length c1) now (.slice A3 L.length c3))) (C26 d.f0 d.f1 d.f2 d.f3 d.f4 A5 d.f5.length c5)) (C57 (.slice none 0 0) (.slice none 0 0) 0 (.slice none 0 0))
  have hx1 := blk_alloc (blk_alloc (blk_new w (C57 (.slice A0 own.length c0) (.slice A1 wh.length c1) now (.slice A3 L.length c3))) (C26 d.f0 d.f1 d.f2 d.f3 d.f4 A5 d.f5.length c5)) (C57 (.slice none 0 0) (.slice none 0 0) 0 (.slice none 0 0))
  have hy1 := blk_alloc (blk_new (w.alloc (C57 (.slice A0 own.length c0) (.slice A1 wh.length c1) now (.slice A3 L.length c3))) (C26 d.f0 d.f1 d.f2 d.f3 d.f4 A5 d.f5.length c5)) (C57 (.slice none 0 0) (.slice none 0 0) 0 (.slice none 0 0))
  have hz1 := blk_new ((w.alloc (C57 (.slice A0 own.length c0) (.slice A1 wh.length c1) now (.slice A3 L.length c3))).alloc (C26 d.f0 d.f1 d.f2 d.f3 d.f4 A5 d.f5.length c5)) (C57 (.slice none 0 0) (.slice none 0 0) 0 (.slice none 0 0))
  rw [World.size_alloc] at hy1
  rw [World.size_alloc, World.size_alloc] at hz1
  rw [← hW1] at hb1 hx1 hy1 hz1
  have hgw := (h.rs.own_lt a.g (.inl rfl)).2
  have h1 := h.below hb1
  obtain ⟨bx, hbx⟩ : ∃ bx, bx = w.heap.size := ⟨_, rfl⟩
  obtain ⟨W, hW⟩ : ∃ W, W = W1 := ⟨_, rfl⟩
  have x0 : W.cell? ⟨w.heap.size, 0, none⟩ = some (.slice A0 own.length c0) := by rw [hW]; exact (blk_cell hx1 0).trans rfl
  have x1 : W.cell? ⟨w.heap.size, 1, none⟩ = some (.slice A1 wh.length c1) := by rw [hW]; exact (blk_cell hx1 1).trans rfl
  have x2 : W.cell? ⟨w.heap.size, 2, none⟩ = some (.int .i64 now) := by rw [hW]; exact (blk_cell hx1 2).trans rfl
  have x3 : W.cell? ⟨w.heap.size, 3, none⟩ = some (.slice A3 L.length c3) := by rw [hW]; exact (blk_cell hx1 3).trans rfl
  have y0 : W.cell? ⟨w.heap.size + 1, 0, none⟩ = some (.int .i64 d.f0) := by rw [hW]; exact (blk_cell hy1 0).trans rfl
  have y1 : W.cell? ⟨w.heap.size + 1, 1, none⟩ = some (.int .i64 d.f1) := by rw [hW]; exact (blk_cell hy1 1).trans rfl
  have y2 : W.cell? ⟨w.heap.size + 1, 2, none⟩ = some (.int .i64 d.f2) := by rw [hW]; exact (blk_cell hy1 2).trans rfl
  have y3 : W.cell? ⟨w.heap.size + 1, 3, none⟩ = some (.int .i64 d.f3) := by rw [hW]; exact (blk_cell hy1 3).trans rfl
  have y4 : W.cell? ⟨w.heap.size + 1, 4, none⟩ = some (.int .u64 d.f4) := by rw [hW]; exact (blk_cell hy1 4).trans rfl
  have y5 : W.cell? ⟨w.heap.size + 1, 5, none⟩ = some (.slice A5 d.f5.length c5) := by rw [hW]; exact (blk_cell hy1 5).trans rfl
  have hWW := Aside0.mk (hW.trans hW1)
  rw [← hW] at hb1 hx1 hy1 hz1 h1
  clear hW1 hW
  clear W1
  have hX := Aside0.mk ((h.xf.at (Q' := Qb a w.heap.size) (Nat.le_refl _) (fun k hk => hk.imp id (fun e => e.1))).below hb1)
  have hR1 := Aside0.mk h1.rs
  have hQ1 := Aside0.mk (show ∀ k, Qb a w.heap.size k → k < W.heap.size from fun k hk => by
    rcases hk with e | e
    · exact (h1.rs.own_lt k e).2
    · have := blk_lt hz1; omega)
  have hRn := Aside0.mk (show ∀ k, w.heap.size ≤ k → ¬ Rown a k from fun k hk hr => by have := (h.rs.own_lt k hr).2; omega)
  have hgt := Aside0.mk h.bel.size
  have hge := Aside0.mk (fun k hk => (h.rs.own_lt k hk).1)
  have hnl := Aside0.mk (And.intro h.now h.len)
  replace hb1 := Aside0.mk hb1
  replace hx1 := Aside0.mk hx1
  replace hy1 := Aside0.mk hy1
  replace hz1 := Aside0.mk hz1
  replace h1 := Aside0.mk h1
  replace hgw := Aside0.mk hgw
  have hc := Aside0.mk (And.intro h.m96 h.i60)
  have hol := Aside0.mk h.own_len
  replace hDC := Aside0.mk hDC
  replace hDc := Aside0.mk hDc
  replace hD := Aside0.mk hD
  replace hi := Aside0.mk hi
  replace h := Aside0.mk h
  have hrT := rTake h.out.pi.wi d.f1 (by have := hc.out.1; omega)
  rw [if_pos hyes] at hrT
  obtain ⟨G, y, rfl⟩ : ∃ G y, F = G ++ [y] := ⟨F.dropLast, F.getLast hyes.1, (List.dropLast_concat_getLast hyes.1).symm⟩
  have hy := h.out.pi.wi.ok.are y (by simp)
  obtain ⟨x, rfl⟩ : ∃ x : Nat, y = (x : Int) := ⟨y.toNat, by omega⟩
  have el : (G ++ [(x : Int)]).getLastD 0 = (x : Int) := by simp
  have htk : tk own (G ++ [(x : Int)]) t d.f1 = ⟨own.set x d.f1, G, wrap64 (t + 1), (x : Int), true⟩ := by
    unfold tk
    rw [if_pos hyes, el, Int.toNat_natCast]
    simp
  rw [el, Int.toNat_natCast] at hrT
  have hT := Aside0.mk (x6_yes hX.out hR1.out hQ1.out (fun k e => .inl e) h1.out.bel now d.f1 hrT (by have := hnl.out.2; have := hc.out.2; omega))
  have hP := fun W hW => take_q w0.heap.size a own (G ++ [(x : Int)]) t B q d.f1 W hW h.out.gd
  rw [htk] at hP
  replace hP := Aside0.mk hP
  have hpi := Aside0.mk ((h.out.pi.take x d.f1 hyes.2.1 hyes.2.2).more (by have := hc.out; have := hi.out; omega))
  have hll := Aside0.mk (less_length L (x : Int))
  clear hyes hrT htk el hy
  have e0 : (d.f0 == 0) = true := beq_iff_eq.mpr hk
  clear hk
  go_enter Try.func21, Try.ntmps21
  go_upto_region 1 with (fail)
  rw [← hWW.out]
  go_upto_region 4 with (go_at_call 34; refine hT.out.mono ?_; rintro e w2 ⟨v0, v1, v3, rfl, hX2, hS2, hF2, hB2⟩; obtain ⟨B0, b0, B1, b1, B3, b3, f0, f1, f3, _, _, _⟩ := hX2.reads; rw [List.length_set] at f0; subst f0 f1 f3; replace hX2 := Aside0.mk hX2; replace hS2 := Aside0.mk hS2; replace hF2 := Aside0.mk hF2; replace hB2 := Aside0.mk hB2)
  obtain ⟨O, hO⟩ : ∃ O : Obj, O = .cells #[.slice B0 own.length b0, .slice B1 wh.length b1, .int .i64 now, .slice B3 (less L (x : Int)).length b3] 57 (0, 0) := ⟨_, rfl⟩
  have hX3 := Aside0.mk (hX2.out.below (below_alloc (Below.refl _ w2) O))
  have hS3 := Aside0.mk (hS2.out.below (below_alloc (Below.refl _ w2) O))
  have hB3 := Aside0.mk (below_step hB2.out (below_alloc (Below.refl _ w2) O))
  have hg3 := Aside0.mk (blk_new w2 O)
  have hnA : ∀ k, w.heap.size ≤ k → k < w.heap.size + 3 → ¬ (some k = (Value.slice A0 own.length c0).ownBlock ∨ some k = (Value.slice A1 wh.length c1).ownBlock) := fun k hk hk2 e => by
    rcases e with e | e
    · have h1 := (hX.out.r0.1 k e.symm).1; exact h1 (.inr ⟨hk, hk2⟩)
    · have h1 := (hX.out.r1.1 k e.symm).1; exact h1 (.inr ⟨hk, hk2⟩)
  have hy3 := Aside0.mk (blk_alloc (hF2.out.blk hy1.out (hnA _ (by omega) (by omega))) O)
  have hz3 := Aside0.mk (blk_alloc (hF2.out.blk hz1.out (hnA _ (by omega) (by omega))) O)
  have hsz3 := Aside0.mk (show w.heap.size + 1 + 1 < (w2.alloc O).heap.size from blk_lt hz3.out)
  have hT3 := Aside0.mk (((Far.of_below hb1.out).then_ hF2.out).alloc O)
  obtain ⟨gy, hgy⟩ : ∃ gy, gy = w2.heap.size := ⟨_, rfl⟩
  have hgy2 := Aside0.mk (show w.heap.size ≤ gy by rw [hgy]; exact Nat.le_trans hb1.out.size hF2.out.size)
  rw [← hgy] at hg3 ⊢
  rw [← hO]
  clear hgy hX2 hS2 hF2 hB2 hnA
  generalize w2.alloc O = w3 at hX3 hS3 hB3 hg3 hy3 hz3 hsz3 hT3 ⊢
  subst hO
  clear x0 x1 x2 x3 y0 y1 y2 y3 y4 y5
  have y1 : w3.cell? ⟨w.heap.size + 1, 1, none⟩ = some (.int .i64 d.f1) := (blk_cell hy3.out 1).trans rfl
  have hP3 := Aside0.mk (hP.out w3 hS3.out)
  go_upto_region 5 with (go_at_call 9; refine hP3.out.mono ?_; rintro e w4 ⟨A6, c6, rfl, hs4, hf4, hk4⟩; replace hs4 := Aside0.mk hs4; replace hf4 := Aside0.mk hf4; replace hk4 := Aside0.mk hk4)
  have hz4 := hf4.out.blk hz3.out (hRn.out _ (by omega))
  have hg4 := hf4.out.blk hg3.out (hRn.out _ hgy2.out)
  have g0 : w4.cell? ⟨gy, 0, none⟩ = some (.slice B0 own.length b0) := (blk_cell hg4 0).trans rfl
  have g1 : w4.cell? ⟨gy, 1, none⟩ = some (.slice B1 wh.length b1) := (blk_cell hg4 1).trans rfl
  have g2 : w4.cell? ⟨gy, 2, none⟩ = some (.int .i64 now) := (blk_cell hg4 2).trans rfl
  have g3 : w4.cell? ⟨gy, 3, none⟩ = some (.slice B3 (less L (x : Int)).length b3) := (blk_cell hg4 3).trans rfl
  have z0 : w4.cell? ⟨w.heap.size + 1 + 1, 0, none⟩ = some (.slice none 0 0) := (blk_cell hz4 0).trans rfl
  have z1 : w4.cell? ⟨w.heap.size + 1 + 1, 1, none⟩ = some (.slice none 0 0) := (blk_cell hz4 1).trans rfl
  have z2 : w4.cell? ⟨w.heap.size + 1 + 1, 2, none⟩ = some (.int .i64 0) := (blk_cell hz4 2).trans rfl
  have z3 : w4.cell? ⟨w.heap.size + 1 + 1, 3, none⟩ = some (.slice none 0 0) := (blk_cell hz4 3).trans rfl
  have zf := fun j => blk_frozen hz4 j
  have HZ := Aside0.mk (st4_blk hz4 (.slice B0 own.length b0) (.slice B1 wh.length b1) (.int .i64 now) (.slice B3 (less L (x : Int)).length b3))
  clear hz4 hg4 y1
  go_wp2
  refine bodyPost_ret (results_row2 rfl _ _ (w.heap.size + 1 + 1) 57 _ (0, 0) _ rfl HZ.out.1 Try.underlying57 (by kernel_rfl)) rfl ?_
  exact Did.of (ST.done hT3.out hs4.out hX3.out hB3.out hf4.out (fun k h => h) hk4.out hge.out hpi.out (by have := hnl.out; omega) (by have := hnl.out; have := hll.out; omega) hc.out.1 (by have := hi.out; omega) HZ.out.2 (by omega) (by omega) hsz3.out hgt.out (hRn.out _ (by omega))) rfl ⟨rfl, rfl⟩

set_option maxHeartbeats 16000000 in
set_option maxRecDepth 100000 in
theorem step_give_yes {w0 w : World} {a : RA} {own F : List Int} {t : Int} {B : List Int} {q : Int} {wh : List Int} {now : Int} {L : List S83} {A0 A1 A3 : Option Addr} {c0 c1 c3 m i : Nat} (h : ST w0 w a own F t B q wh now L (.slice A0 own.length c0) (.slice A1 wh.length c1) (.slice A3 L.length c3) m i) (hi : i < 60)
    (d : S26) (A5 : Option Addr) (c5 : Nat) (hD : DeedWf d) (hDC : Kd.C (Kd.int .u8) w0 A5 d.f5.length d.f5) (hDc : d.f5.length ≤ c5) (hk : d.f0 = 1) (hyes : ownerOf own d.f1 ≠ 0) :
    Calls Try.prog 21 #[.pointer (some ⟨a.g, 0, none⟩), .agg #[.slice A0 own.length c0, .slice A1 wh.length c1, .int .i64 now, .slice A3 L.length c3], .agg #[.int .i64 d.f0, .int .i64 d.f1, .int .i64 d.f2, .int .i64 d.f3, .int .u64 d.f4, .slice A5 d.f5.length c5]] w fun e w' => Did w0 w a (.slice A0 own.length c0) (.slice A1 wh.length c1) q m (i + 1) e w' := by
  obtain ⟨W1, hW1⟩ : ∃ W1, W1 = ((w.alloc (C57 (.slice A0 own.length c0) (.slice A1 wh.length c1) now (.slice A3 L.length c3))).alloc (C26 d.f0 d.f1 d.f2 d.f3 d.f4 A5 d.f5.length c5)).alloc (C57 (.slice none 0 0) (.slice none 0 0) 0 (.slice none 0 0)) := ⟨_, rfl⟩
  have hb1 := below_alloc (below_alloc (below_alloc (Below.refl w.heap.size w) (C57 (.slice A0 own.length c0) (.slice A1 wh.length c1) now (.slice A3 L.length c3))) (C26 d.f0 d.f1 d.f2 d.f3 d.f4 A5 d.f5.length c5)) (C57 (.slice none 0 0) (.slice none 0 0) 0 (.slice none 0 0))
  have hx1 := blk_alloc (blk_alloc (blk_new w (C57 (.slice A0 own.length c0) (.slice A1 wh.length c1) now (.slice A3 L.length c3))) (C26 d.f0 d.f1 d.f2 d.f3 d.f4 A5 d.f5.length c5)) (C57 (.slice none 0 0) (.slice none 0 0) 0 (.slice none 0 0))
  have hy1 := blk_alloc (blk_new (w.alloc (C57 (.slice A0 own.length c0) (.slice A1 wh.length c1) now (.slice A3 L.length c3))) (C26 d.f0 d.f1 d.f2 d.f3 d.f4 A5 d.f5.length c5)) (C57 (.slice none 0 0) (.slice none 0 0) 0 (.slice none 0 0))
  have hz1 := blk_new ((w.alloc (C57 (.slice A0 own.length c0) (.slice A1 wh.length c1) now (.slice A3 L.length c3))).alloc (C26 d.f0 d.f1 d.f2 d.f3 d.f4 A5 d.f5.length c5)) (C57 (.slice none 0 0) (.slice none 0 0) 0 (.slice none 0 0))
  rw [World.size_alloc] at hy1
  rw [World.size_alloc, World.size_alloc] at hz1
  rw [← hW1] at hb1 hx1 hy1 hz1
  have hgw := (h.rs.own_lt a.g (.inl rfl)).2
  have h1 := h.below hb1
  obtain ⟨bx, hbx⟩ : ∃ bx, bx = w.heap.size := ⟨_, rfl⟩
  obtain ⟨W, hW⟩ : ∃ W, W = W1 := ⟨_, rfl⟩
  have x0 : W.cell? ⟨w.heap.size, 0, none⟩ = some (.slice A0 own.length c0) := by rw [hW]; exact (blk_cell hx1 0).trans rfl
  have x1 : W.cell? ⟨w.heap.size, 1, none⟩ = some (.slice A1 wh.length c1) := by rw [hW]; exact (blk_cell hx1 1).trans rfl
  have x2 : W.cell? ⟨w.heap.size, 2, none⟩ = some (.int .i64 now) := by rw [hW]; exact (blk_cell hx1 2).trans rfl
  have x3 : W.cell? ⟨w.heap.size, 3, none⟩ = some (.slice A3 L.length c3) := by rw [hW]; exact (blk_cell hx1 3).trans rfl
  have y0 : W.cell? ⟨w.heap.size + 1, 0, none⟩ = some (.int .i64 d.f0) := by rw [hW]; exact (blk_cell hy1 0).trans rfl
  have y1 : W.cell? ⟨w.heap.size + 1, 1, none⟩ = some (.int .i64 d.f1) := by rw [hW]; exact (blk_cell hy1 1).trans rfl
  have y2 : W.cell? ⟨w.heap.size + 1, 2, none⟩ = some (.int .i64 d.f2) := by rw [hW]; exact (blk_cell hy1 2).trans rfl
  have y3 : W.cell? ⟨w.heap.size + 1, 3, none⟩ = some (.int .i64 d.f3) := by rw [hW]; exact (blk_cell hy1 3).trans rfl
  have y4 : W.cell? ⟨w.heap.size + 1, 4, none⟩ = some (.int .u64 d.f4) := by rw [hW]; exact (blk_cell hy1 4).trans rfl
  have y5 : W.cell? ⟨w.heap.size + 1, 5, none⟩ = some (.slice A5 d.f5.length c5) := by rw [hW]; exact (blk_cell hy1 5).trans rfl
  have hWW := Aside0.mk (hW.trans hW1)
  rw [← hW] at hb1 hx1 hy1 hz1 h1
  clear hW1 hW
  clear W1
  have hX := Aside0.mk ((h.xf.at (Q' := Qb a w.heap.size) (Nat.le_refl _) (fun k hk => hk.imp id (fun e => e.1))).below hb1)
  have hR1 := Aside0.mk h1.rs
  have hQ1 := Aside0.mk (show ∀ k, Qb a w.heap.size k → k < W.heap.size from fun k hk => by
    rcases hk with e | e
    · exact (h1.rs.own_lt k e).2
    · have := blk_lt hz1; omega)
  have hRn := Aside0.mk (show ∀ k, w.heap.size ≤ k → ¬ Rown a k from fun k hk hr => by have := (h.rs.own_lt k hr).2; omega)
  have hgt := Aside0.mk h.bel.size
  have hge := Aside0.mk (fun k hk => (h.rs.own_lt k hk).1)
  have hnl := Aside0.mk (And.intro h.now h.len)
  replace hb1 := Aside0.mk hb1
  replace hx1 := Aside0.mk hx1
  replace hy1 := Aside0.mk hy1
  replace hz1 := Aside0.mk hz1
  replace h1 := Aside0.mk h1
  replace hgw := Aside0.mk hgw
  have hc := Aside0.mk (And.intro h.m96 h.i60)
  have hol := Aside0.mk h.own_len
  replace hDC := Aside0.mk hDC
  replace hDc := Aside0.mk hDc
  replace hD := Aside0.mk hD
  replace hi := Aside0.mk hi
  replace h := Aside0.mk h
  have hbnd := ownerOf_ne hyes
  obtain ⟨x, hx⟩ : ∃ x : Nat, d.f1 = (x : Int) := ⟨d.f1.toNat, by omega⟩
  have hrG := rGive h.out.pi.wi (by have := hnl.out; have := hc.out; omega) d.f1
  rw [if_pos hyes, hx, Int.toNat_natCast] at hrG
  have hgv : gv own F t d.f1 = ⟨own.set x 0, F ++ [(x : Int)], wrap64 (t + 1), 0, true⟩ := by unfold gv; rw [if_pos hyes, hx, Int.toNat_natCast]
  rw [← hx] at hrG
  have hpi := Aside0.mk (h.out.pi.give (by have := hc.out; have := hi.out; omega) (by have := hnl.out; have := hc.out; omega) x (by have := hol.out.1; omega) (by rw [← hx]; exact hyes))
  clear hyes hbnd hx
  have hT := Aside0.mk (x_give hX.out hR1.out hQ1.out (fun k e => .inl e) h1.out.bel now d.f1 hrG)
  have hP := fun W hW => give_q w0.heap.size a own F t B q d.f1 W hW h.out.gd
  rw [hgv] at hP
  replace hP := Aside0.mk hP
  have hgne : ¬ a.g = w.heap.size + 1 + 1 := by have := hgw.out; omega
  have hgne2 : ¬ w.heap.size + 1 + 1 = a.g := by omega
  have hzx : ¬ w.heap.size = w.heap.size + 1 + 1 := by omega
  have hzx2 : ¬ w.heap.size + 1 + 1 = w.heap.size := by omega
  clear hrG hgv
  have e0 : (d.f0 == 0) = false := beq_eq_false_iff_ne.mpr (by omega)
  have e1 : (d.f0 == 1) = true := beq_iff_eq.mpr hk
  clear hk
  go_enter Try.func21, Try.ntmps21
  go_upto_region 1 with (fail)
  rw [← hWW.out]
  go_upto_region 8 with (go_at_call 35; refine hT.out.mono ?_; rintro e w2 ⟨v0, v1, rfl, hX2, hS2, hF2, hB2⟩; obtain ⟨B0, b0, B1, b1, B3, b3, f0, f1, f3, _, _, _⟩ := hX2.reads; rw [List.length_set] at f0 f1; injection f3 with g1 _ g3; subst f0 f1 g1 g3; replace hX2 := Aside0.mk hX2; replace hS2 := Aside0.mk hS2; replace hF2 := Aside0.mk hF2; replace hB2 := Aside0.mk hB2)
  obtain ⟨O, hO⟩ : ∃ O : Obj, O = .cells #[.slice B0 own.length b0, .slice B1 wh.length b1, .int .i64 (now + 1)] 54 (0, 0) := ⟨_, rfl⟩
  have hX3 := Aside0.mk (hX2.out.below (below_alloc (Below.refl _ w2) O))
  have hS3 := Aside0.mk (hS2.out.below (below_alloc (Below.refl _ w2) O))
  have hB3 := Aside0.mk (below_step hB2.out (below_alloc (Below.refl _ w2) O))
  have hg3 := Aside0.mk (blk_new w2 O)
  have hnA : ∀ k, w.heap.size ≤ k → k < w.heap.size + 3 → ¬ (some k = (Value.slice A0 own.length c0).ownBlock ∨ some k = (Value.slice A1 wh.length c1).ownBlock) := fun k hk hk2 e => by
    rcases e with e | e
    · have h1 := (hX.out.r0.1 k e.symm).1; exact h1 (.inr ⟨hk, hk2⟩)
    · have h1 := (hX.out.r1.1 k e.symm).1; exact h1 (.inr ⟨hk, hk2⟩)
  have hx3 := Aside0.mk (blk_alloc (hF2.out.blk hx1.out (hnA _ (by omega) (by omega))) O)
  have hy3 := Aside0.mk (blk_alloc (hF2.out.blk hy1.out (hnA _ (by omega) (by omega))) O)
  have hz3 := Aside0.mk (blk_alloc (hF2.out.blk hz1.out (hnA _ (by omega) (by omega))) O)
  have hsz3 := Aside0.mk (show w.heap.size + 1 + 1 < (w2.alloc O).heap.size from blk_lt hz3.out)
  have hT3 := Aside0.mk (((Far.of_below hb1.out).then_ hF2.out).alloc O)
  obtain ⟨gy, hgy⟩ : ∃ gy, gy = w2.heap.size := ⟨_, rfl⟩
  have hgy2 := Aside0.mk (show w.heap.size + 2 < gy by rw [hgy]; exact Nat.lt_of_lt_of_le (blk_lt hz1.out) hF2.out.size)
  rw [← hgy] at hg3 ⊢
  rw [← hO]
  clear hgy hX2 hS2 hF2 hB2 hnA
  generalize w2.alloc O = w3 at hX3 hS3 hB3 hg3 hx3 hy3 hz3 hsz3 hT3 ⊢
  subst hO
  clear x0 x1 x2 x3 y0 y1 y2 y3 y4 y5
  have g0 : w3.cell? ⟨gy, 0, none⟩ = some (.slice B0 own.length b0) := (blk_cell hg3.out 0).trans rfl
  have g1 : w3.cell? ⟨gy, 1, none⟩ = some (.slice B1 wh.length b1) := (blk_cell hg3.out 1).trans rfl
  have g2 : w3.cell? ⟨gy, 2, none⟩ = some (.int .i64 (now + 1)) := (blk_cell hg3.out 2).trans rfl
  have x0 : w3.cell? ⟨w.heap.size, 0, none⟩ = some (.slice A0 own.length c0) := (blk_cell hx3.out 0).trans rfl
  have x1 : w3.cell? ⟨w.heap.size, 1, none⟩ = some (.slice A1 wh.length c1) := (blk_cell hx3.out 1).trans rfl
  have x2 : w3.cell? ⟨w.heap.size, 2, none⟩ = some (.int .i64 now) := (blk_cell hx3.out 2).trans rfl
  have x3 : w3.cell? ⟨w.heap.size, 3, none⟩ = some (.slice A3 L.length c3) := (blk_cell hx3.out 3).trans rfl
  have xf := fun j => blk_frozen hx3.out j
  go_upto_region 9 with (fail)
  have HX4 := Aside0.mk (blk_put (cs' := #[.slice B0 own.length b0, .slice B1 wh.length b1, .int .i64 (now + 1), .slice A3 L.length c3]) (blk_put (cs' := #[.slice B0 own.length b0, .slice B1 wh.length b1, .int .i64 now, .slice A3 L.length c3]) (blk_put (cs' := #[.slice B0 own.length b0, .slice A1 wh.length c1, .int .i64 now, .slice A3 L.length c3]) hx3.out 0 (.slice B0 own.length b0) (by simp)) 1 (.slice B1 wh.length b1) (by simp)) 2 (.int .i64 (now + 1)) (by simp))
  have HF4 := Aside0.mk ((((Far.refl (fun k => k = w.heap.size) w3).set1 0 (.slice B0 own.length b0)).set1 1 (.slice B1 wh.length b1)).set1 2 (.int .i64 (now + 1)))
  clear g0 g1 g2 x0 x1 x2 x3 xf
  generalize ((w3.setCell ⟨w.heap.size, 0, none⟩ (.slice B0 own.length b0)).setCell ⟨w.heap.size, 1, none⟩ (.slice B1 wh.length b1)).setCell ⟨w.heap.size, 2, none⟩ (.int .i64 (now + 1)) = w4 at HX4 HF4 ⊢
  have hX4 := Aside0.mk (hX3.out.stay HF4.out (fun k e => .inr (by omega)))
  have hS4 := Aside0.mk (hS3.out.stay HF4.out (fun k hr e => hRn.out k (by omega) hr))
  have hB4 := Aside0.mk (hB3.out.trans (HF4.out.below hB3.out.size (fun k e => by have := hgt.out; omega)))
  have hy4 := Aside0.mk (HF4.out.blk hy3.out (by omega))
  have hz4 := Aside0.mk (HF4.out.blk hz3.out (by omega))
  have hsz4 := Aside0.mk (Nat.lt_of_lt_of_le hsz3.out HF4.out.size)
  have hT4 := Aside0.mk (hT3.out.trans HF4.out (fun k e => .inr (by omega)))
  clear hX3 hS3 hB3 hg3 hx3 hy3 hz3 hsz3 HF4
  have x0 : w4.cell? ⟨w.heap.size, 0, none⟩ = some (.slice B0 own.length b0) := (blk_cell HX4.out 0).trans rfl
  have x1 : w4.cell? ⟨w.heap.size, 1, none⟩ = some (.slice B1 wh.length b1) := (blk_cell HX4.out 1).trans rfl
  have x2 : w4.cell? ⟨w.heap.size, 2, none⟩ = some (.int .i64 (now + 1)) := (blk_cell HX4.out 2).trans rfl
  have x3 : w4.cell? ⟨w.heap.size, 3, none⟩ = some (.slice A3 L.length c3) := (blk_cell HX4.out 3).trans rfl
  have y1 : w4.cell? ⟨w.heap.size + 1, 1, none⟩ = some (.int .i64 d.f1) := (blk_cell hy4.out 1).trans rfl
  have g0 : w4.cell? ⟨a.g, 0, none⟩ = some (.pointer (some ⟨a.f, 0, none⟩)) := (blk_cell hS4.out.blk 0).trans rfl
  have hPn := Aside0.mk (fun n => hP.out (w4.drewN n) (hS4.out.below (pw_below_drewN (Below.refl _ w4) n)))
  go_region_held3 (fun w' => w'.cell? ⟨w.heap.size, 0, none⟩ = some (.slice B0 own.length b0) ∧ w'.cell? ⟨w.heap.size, 1, none⟩ = some (.slice B1 wh.length b1) ∧ w'.cell? ⟨w.heap.size, 2, none⟩ = some (.int .i64 (now + 1)) ∧ w'.cell? ⟨w.heap.size, 3, none⟩ = some (.slice A3 L.length c3) ∧ w'.cell? ⟨w.heap.size + 1, 1, none⟩ = some (.int .i64 d.f1) ∧ w'.cell? ⟨a.g, 0, none⟩ = some (.pointer (some ⟨a.f, 0, none⟩)))
    (first | go_keep | (go_split_ands; refine ⟨?_, ?_, ?_, ?_, ?_, ?_⟩; (exact p0); (exact p1); (exact p2); (exact p3); (exact p4); (exact p5)) | (go_split_ands; refine ⟨?_, ?_, ?_, ?_, ?_, ?_⟩; (exact cell_far HZ.out.2 (by show ¬ (w.heap.size = w.heap.size + 1 + 1); omega) p0); (exact cell_far HZ.out.2 (by show ¬ (w.heap.size = w.heap.size + 1 + 1); omega) p1); (exact cell_far HZ.out.2 (by show ¬ (w.heap.size = w.heap.size + 1 + 1); omega) p2); (exact cell_far HZ.out.2 (by show ¬ (w.heap.size = w.heap.size + 1 + 1); omega) p3); (exact cell_far HZ.out.2 (by show ¬ (w.heap.size + 1 = w.heap.size + 1 + 1); omega) p4); (exact cell_far HZ.out.2 (by show ¬ (a.g = w.heap.size + 1 + 1); exact hgne) p5)))
    (first | (go_at_call 13; refine (hPn.out _).mono ?_; rintro e w5 ⟨A6, c6, rfl, hs5, hf5, hk5⟩; have hx5 := hf5.blk (blkd HX4.out) (hRn.out _ (by omega)); have hy5 := hf5.blk (blkd hy4.out) (hRn.out _ (by omega)); have hz5 := hf5.blk (blkd hz4.out) (hRn.out _ (by omega)); have p0 : w5.cell? ⟨w.heap.size, 0, none⟩ = some (.slice B0 own.length b0) := (blk_cell hx5 0).trans rfl; have p1 : w5.cell? ⟨w.heap.size, 1, none⟩ = some (.slice B1 wh.length b1) := (blk_cell hx5 1).trans rfl; have p2 : w5.cell? ⟨w.heap.size, 2, none⟩ = some (.int .i64 (now + 1)) := (blk_cell hx5 2).trans rfl; have p3 : w5.cell? ⟨w.heap.size, 3, none⟩ = some (.slice A3 L.length c3) := (blk_cell hx5 3).trans rfl; have p4 : w5.cell? ⟨w.heap.size + 1, 1, none⟩ = some (.int .i64 d.f1) := (blk_cell hy5 1).trans rfl; have p5 : w5.cell? ⟨a.g, 0, none⟩ = some (.pointer (some ⟨a.f, 0, none⟩)) := (blk_cell hs5.blk 0).trans rfl; have z0 : w5.cell? ⟨w.heap.size + 1 + 1, 0, none⟩ = some (.slice none 0 0) := (blk_cell hz5 0).trans rfl; have z1 : w5.cell? ⟨w.heap.size + 1 + 1, 1, none⟩ = some (.slice none 0 0) := (blk_cell hz5 1).trans rfl; have z2 : w5.cell? ⟨w.heap.size + 1 + 1, 2, none⟩ = some (.int .i64 0) := (blk_cell hz5 2).trans rfl; have z3 : w5.cell? ⟨w.heap.size + 1 + 1, 3, none⟩ = some (.slice none 0 0) := (blk_cell hz5 3).trans rfl; have zf := fun j => blk_frozen hz5 j; have HZ := Aside0.mk (st4_blk hz5 (.slice B0 own.length b0) (.slice B1 wh.length b1) (.int .i64 (now + 1)) (.slice A3 L.length c3)); replace hs5 := Aside0.mk hs5; replace hf5 := Aside0.mk hf5; replace hk5 := Aside0.mk hk5; clear hx5 hy5 hz5))
  go_wp2
  refine bodyPost_ret (results_row2 rfl _ _ (w.heap.size + 1 + 1) 57 _ (0, 0) _ rfl HZ.out.1 Try.underlying57 (by kernel_rfl)) rfl ?_
  exact Did.of (ST.done (hT4.out.drewN _) hs5.out (hX4.out.below (pw_below_drewN (Below.refl _ w4) _)) (below_step hB4.out (pw_below_drewN (Below.refl _ w4) _)) hf5.out (fun k h => h) hk5.out hge.out hpi.out (by have := hnl.out; omega) (by have := hnl.out; omega) hc.out.1 (by have := hi.out; omega) HZ.out.2 (by omega) (by omega) (blk_lt (blkd hz4.out)) hgt.out (hRn.out _ (by omega))) rfl ⟨rfl, rfl⟩

set_option maxHeartbeats 16000000 in
set_option maxRecDepth 100000 in
theorem step_give_no {w0 w : World} {a : RA} {own F : List Int} {t : Int} {B : List Int} {q : Int} {wh : List Int} {now : Int} {L : List S83} {A0 A1 A3 : Option Addr} {c0 c1 c3 m i : Nat} (h : ST w0 w a own F t B q wh now L (.slice A0 own.length c0) (.slice A1 wh.length c1) (.slice A3 L.length c3) m i) (hi : i < 60)
    (d : S26) (A5 : Option Addr) (c5 : Nat) (hD : DeedWf d) (hDC : Kd.C (Kd.int .u8) w0 A5 d.f5.length d.f5) (hDc : d.f5.length ≤ c5) (hk : d.f0 = 1) (hno : ¬ ownerOf own d.f1 ≠ 0) :
    Calls Try.prog 21 #[.pointer (some ⟨a.g, 0, none⟩), .agg #[.slice A0 own.length c0, .slice A1 wh.length c1, .int .i64 now, .slice A3 L.length c3], .agg #[.int .i64 d.f0, .int .i64 d.f1, .int .i64 d.f2, .int .i64 d.f3, .int .u64 d.f4, .slice A5 d.f5.length c5]] w fun e w' => Did w0 w a (.slice A0 own.length c0) (.slice A1 wh.length c1) q m (i + 1) e w' := by
  obtain ⟨W1, hW1⟩ : ∃ W1, W1 = ((w.alloc (C57 (.slice A0 own.length c0) (.slice A1 wh.length c1) now (.slice A3 L.length c3))).alloc (C26 d.f0 d.f1 d.f2 d.f3 d.f4 A5 d.f5.length c5)).alloc (C57 (.slice none 0 0) (.slice none 0 0) 0 (.slice none 0 0)) := ⟨_, rfl⟩
  have hb1 := below_alloc (below_alloc (below_alloc (Below.refl w.heap.size w) (C57 (.slice A0 own.length c0) (.slice A1 wh.length c1) now (.slice A3 L.length c3))) (C26 d.f0 d.f1 d.f2 d.f3 d.f4 A5 d.f5.length c5)) (C57 (.slice none 0 0) (.slice none 0 0) 0 (.slice none 0 0))
  have hx1 := blk_alloc (blk_alloc (blk_new w (C57 (.slice A0 own.length c0) (.slice A1 wh.length c1) now (.slice A3 L.length c3))) (C26 d.f0 d.f1 d.f2 d.f3 d.f4 A5 d.f5.length c5)) (C57 (.slice none 0 0) (.slice none 0 0) 0 (.slice none 0 0))
  have hy1 := blk_alloc (blk_new (w.alloc (C57 (.slice A0 own.length c0) (.slice A1 wh.length c1) now (.slice A3 L.length c3))) (C26 d.f0 d.f1 d.f2 d.f3 d.f4 A5 d.f5.length c5)) (C57 (.slice none 0 0) (.slice none 0 0) 0 (.slice none 0 0))
  have hz1 := blk_new ((w.alloc (C57 (.slice A0 own.length c0) (.slice A1 wh.length c1) now (.slice A3 L.length c3))).alloc (C26 d.f0 d.f1 d.f2 d.f3 d.f4 A5 d.f5.length c5)) (C57 (.slice none 0 0) (.slice none 0 0) 0 (.slice none 0 0))
  rw [World.size_alloc] at hy1
  rw [World.size_alloc, World.size_alloc] at hz1
  rw [← hW1] at hb1 hx1 hy1 hz1
  have hgw := (h.rs.own_lt a.g (.inl rfl)).2
  have h1 := h.below hb1
  obtain ⟨bx, hbx⟩ : ∃ bx, bx = w.heap.size := ⟨_, rfl⟩
  obtain ⟨W, hW⟩ : ∃ W, W = W1 := ⟨_, rfl⟩
  have x0 : W.cell? ⟨w.heap.size, 0, none⟩ = some (.slice A0 own.length c0) := by rw [hW]; exact (blk_cell hx1 0).trans rfl
  have x1 : W.cell? ⟨w.heap.size, 1, none⟩ = some (.slice A1 wh.length c1) := by rw [hW]; exact (blk_cell hx1 1).trans rfl
  have x2 : W.cell? ⟨w.heap.size, 2, none⟩ = some (.int .i64 now) := by rw [hW]; exact (blk_cell hx1 2).trans rfl
  have x3 : W.cell? ⟨w.heap.size, 3, none⟩ = some (.slice A3 L.length c3) := by rw [hW]; exact (blk_cell hx1 3).trans rfl
  have y0 : W.cell? ⟨w.heap.size + 1, 0, none⟩ = some (.int .i64 d.f0) := by rw [hW]; exact (blk_cell hy1 0).trans rfl
  have y1 : W.cell? ⟨w.heap.size + 1, 1, none⟩ = some (.int .i64 d.f1) := by rw [hW]; exact (blk_cell hy1 1).trans rfl
  have y2 : W.cell? ⟨w.heap.size + 1, 2, none⟩ = some (.int .i64 d.f2) := by rw [hW]; exact (blk_cell hy1 2).trans rfl
  have y3 : W.cell? ⟨w.heap.size + 1, 3, none⟩ = some (.int .i64 d.f3) := by rw [hW]; exact (blk_cell hy1 3).trans rfl
  have y4 : W.cell? ⟨w.heap.size + 1, 4, none⟩ = some (.int .u64 d.f4) := by rw [hW]; exact (blk_cell hy1 4).trans rfl
  have y5 : W.cell? ⟨w.heap.size + 1, 5, none⟩ = some (.slice A5 d.f5.length c5) := by rw [hW]; exact (blk_cell hy1 5).trans rfl
  have hWW := Aside0.mk (hW.trans hW1)
  rw [← hW] at hb1 hx1 hy1 hz1 h1
  clear hW1 hW
  clear W1
  have hX := Aside0.mk ((h.xf.at (Q' := Qb a w.heap.size) (Nat.le_refl _) (fun k hk => hk.imp id (fun e => e.1))).below hb1)
  have hR1 := Aside0.mk h1.rs
  have hQ1 := Aside0.mk (show ∀ k, Qb a w.heap.size k → k < W.heap.size from fun k hk => by
    rcases hk with e | e
    · exact (h1.rs.own_lt k e).2
    · have := blk_lt hz1; omega)
  have hRn := Aside0.mk (show ∀ k, w.heap.size ≤ k → ¬ Rown a k from fun k hk hr => by have := (h.rs.own_lt k hr).2; omega)
  have hgt := Aside0.mk h.bel.size
  have hge := Aside0.mk (fun k hk => (h.rs.own_lt k hk).1)
  have hnl := Aside0.mk (And.intro h.now h.len)
  replace hb1 := Aside0.mk hb1
  replace hx1 := Aside0.mk hx1
  replace hy1 := Aside0.mk hy1
  replace hz1 := Aside0.mk hz1
  replace h1 := Aside0.mk h1
  replace hgw := Aside0.mk hgw
  have hc := Aside0.mk (And.intro h.m96 h.i60)
  have hol := Aside0.mk h.own_len
  replace hDC := Aside0.mk hDC
  replace hDc := Aside0.mk hDc
  replace hD := Aside0.mk hD
  replace hi := Aside0.mk hi
  replace h := Aside0.mk h
  have hrG := rGive h.out.pi.wi (by have := hnl.out; have := hc.out; omega) d.f1
  rw [if_neg hno] at hrG
  have hgv : gv own F t d.f1 = ⟨own, F, t, 0, false⟩ := by unfold gv; rw [if_neg hno]
  clear hno
  have hT := Aside0.mk (x_give hX.out hR1.out hQ1.out (fun k e => .inl e) h1.out.bel now d.f1 hrG)
  have hP := fun W hW => give_q w0.heap.size a own F t B q d.f1 W hW h.out.gd
  rw [hgv] at hP
  replace hP := Aside0.mk hP
  have hgne : ¬ a.g = w.heap.size + 1 + 1 := by have := hgw.out; omega
  have hgne2 : ¬ w.heap.size + 1 + 1 = a.g := by omega
  have hzx : ¬ w.heap.size = w.heap.size + 1 + 1 := by omega
  have hzx2 : ¬ w.heap.size + 1 + 1 = w.heap.size := by omega
  clear hrG hgv
  have e0 : (d.f0 == 0) = false := beq_eq_false_iff_ne.mpr (by omega)
  have e1 : (d.f0 == 1) = true := beq_iff_eq.mpr hk
  clear hk
  go_enter Try.func21, Try.ntmps21
  go_upto_region 1 with (fail)
  rw [← hWW.out]
  go_upto_region 8 with (go_at_call 35; refine hT.out.mono ?_; rintro e w2 ⟨v0, v1, rfl, hX2, hS2, hF2, hB2⟩; obtain ⟨B0, b0, B1, b1, B3, b3, f0, f1, f3, _, _, _⟩ := hX2.reads; injection f3 with g1 _ g3; subst f0 f1 g1 g3; replace hX2 := Aside0.mk hX2; replace hS2 := Aside0.mk hS2; replace hF2 := Aside0.mk hF2; replace hB2 := Aside0.mk hB2)
  obtain ⟨O, hO⟩ : ∃ O : Obj, O = .cells #[.slice B0 own.length b0, .slice B1 wh.length b1, .int .i64 now] 54 (0, 0) := ⟨_, rfl⟩
  have hX3 := Aside0.mk (hX2.out.below (below_alloc (Below.refl _ w2) O))
  have hS3 := Aside0.mk (hS2.out.below (below_alloc (Below.refl _ w2) O))
  have hB3 := Aside0.mk (below_step hB2.out (below_alloc (Below.refl _ w2) O))
  have hg3 := Aside0.mk (blk_new w2 O)
  have hnA : ∀ k, w.heap.size ≤ k → k < w.heap.size + 3 → ¬ (some k = (Value.slice A0 own.length c0).ownBlock ∨ some k = (Value.slice A1 wh.length c1).ownBlock) := fun k hk hk2 e => by
    rcases e with e | e
    · have h1 := (hX.out.r0.1 k e.symm).1; exact h1 (.inr ⟨hk, hk2⟩)
    · have h1 := (hX.out.r1.1 k e.symm).1; exact h1 (.inr ⟨hk, hk2⟩)
  have hx3 := Aside0.mk (blk_alloc (hF2.out.blk hx1.out (hnA _ (by omega) (by omega))) O)
  have hy3 := Aside0.mk (blk_alloc (hF2.out.blk hy1.out (hnA _ (by omega) (by omega))) O)
  have hz3 := Aside0.mk (blk_alloc (hF2.out.blk hz1.out (hnA _ (by omega) (by omega))) O)
  have hsz3 := Aside0.mk (show w.heap.size + 1 + 1 < (w2.alloc O).heap.size from blk_lt hz3.out)
  have hT3 := Aside0.mk (((Far.of_below hb1.out).then_ hF2.out).alloc O)
  obtain ⟨gy, hgy⟩ : ∃ gy, gy = w2.heap.size := ⟨_, rfl⟩
  have hgy2 := Aside0.mk (show w.heap.size + 2 < gy by rw [hgy]; exact Nat.lt_of_lt_of_le (blk_lt hz1.out) hF2.out.size)
  rw [← hgy] at hg3 ⊢
  rw [← hO]
  clear hgy hX2 hS2 hF2 hB2 hnA
  generalize w2.alloc O = w3 at hX3 hS3 hB3 hg3 hx3 hy3 hz3 hsz3 hT3 ⊢
  subst hO
  clear x0 x1 x2 x3 y0 y1 y2 y3 y4 y5
  have g0 : w3.cell? ⟨gy, 0, none⟩ = some (.slice B0 own.length b0) := (blk_cell hg3.out 0).trans rfl
  have g1 : w3.cell? ⟨gy, 1, none⟩ = some (.slice B1 wh.length b1) := (blk_cell hg3.out 1).trans rfl
  have g2 : w3.cell? ⟨gy, 2, none⟩ = some (.int .i64 now) := (blk_cell hg3.out 2).trans rfl
  have x0 : w3.cell? ⟨w.heap.size, 0, none⟩ = some (.slice A0 own.length c0) := (blk_cell hx3.out 0).trans rfl
  have x1 : w3.cell? ⟨w.heap.size, 1, none⟩ = some (.slice A1 wh.length c1) := (blk_cell hx3.out 1).trans rfl
  have x2 : w3.cell? ⟨w.heap.size, 2, none⟩ = some (.int .i64 now) := (blk_cell hx3.out 2).trans rfl
  have x3 : w3.cell? ⟨w.heap.size, 3, none⟩ = some (.slice A3 L.length c3) := (blk_cell hx3.out 3).trans rfl
  have xf := fun j => blk_frozen hx3.out j
  go_upto_region 9 with (fail)
  have HX4 := Aside0.mk (blk_put (cs' := #[.slice B0 own.length b0, .slice B1 wh.length b1, .int .i64 now, .slice A3 L.length c3]) (blk_put (cs' := #[.slice B0 own.length b0, .slice B1 wh.length b1, .int .i64 now, .slice A3 L.length c3]) (blk_put (cs' := #[.slice B0 own.length b0, .slice A1 wh.length c1, .int .i64 now, .slice A3 L.length c3]) hx3.out 0 (.slice B0 own.length b0) (by simp)) 1 (.slice B1 wh.length b1) (by simp)) 2 (.int .i64 now) (by simp))
  have HF4 := Aside0.mk ((((Far.refl (fun k => k = w.heap.size) w3).set1 0 (.slice B0 own.length b0)).set1 1 (.slice B1 wh.length b1)).set1 2 (.int .i64 now))
  clear g0 g1 g2 x0 x1 x2 x3 xf
  generalize ((w3.setCell ⟨w.heap.size, 0, none⟩ (.slice B0 own.length b0)).setCell ⟨w.heap.size, 1, none⟩ (.slice B1 wh.length b1)).setCell ⟨w.heap.size, 2, none⟩ (.int .i64 now) = w4 at HX4 HF4 ⊢
  have hX4 := Aside0.mk (hX3.out.stay HF4.out (fun k e => .inr (by omega)))
  have hS4 := Aside0.mk (hS3.out.stay HF4.out (fun k hr e => hRn.out k (by omega) hr))
  have hB4 := Aside0.mk (hB3.out.trans (HF4.out.below hB3.out.size (fun k e => by have := hgt.out; omega)))
  have hy4 := Aside0.mk (HF4.out.blk hy3.out (by omega))
  have hz4 := Aside0.mk (HF4.out.blk hz3.out (by omega))
  have hsz4 := Aside0.mk (Nat.lt_of_lt_of_le hsz3.out HF4.out.size)
  have hT4 := Aside0.mk (hT3.out.trans HF4.out (fun k e => .inr (by omega)))
  clear hX3 hS3 hB3 hg3 hx3 hy3 hz3 hsz3 HF4
  have x0 : w4.cell? ⟨w.heap.size, 0, none⟩ = some (.slice B0 own.length b0) := (blk_cell HX4.out 0).trans rfl
  have x1 : w4.cell? ⟨w.heap.size, 1, none⟩ = some (.slice B1 wh.length b1) := (blk_cell HX4.out 1).trans rfl
  have x2 : w4.cell? ⟨w.heap.size, 2, none⟩ = some (.int .i64 now) := (blk_cell HX4.out 2).trans rfl
  have x3 : w4.cell? ⟨w.heap.size, 3, none⟩ = some (.slice A3 L.length c3) := (blk_cell HX4.out 3).trans rfl
  have y1 : w4.cell? ⟨w.heap.size + 1, 1, none⟩ = some (.int .i64 d.f1) := (blk_cell hy4.out 1).trans rfl
  have g0 : w4.cell? ⟨a.g, 0, none⟩ = some (.pointer (some ⟨a.f, 0, none⟩)) := (blk_cell hS4.out.blk 0).trans rfl
  have hPn := Aside0.mk (fun n => hP.out (w4.drewN n) (hS4.out.below (pw_below_drewN (Below.refl _ w4) n)))
  go_region_held3 (fun w' => w'.cell? ⟨w.heap.size, 0, none⟩ = some (.slice B0 own.length b0) ∧ w'.cell? ⟨w.heap.size, 1, none⟩ = some (.slice B1 wh.length b1) ∧ w'.cell? ⟨w.heap.size, 2, none⟩ = some (.int .i64 now) ∧ w'.cell? ⟨w.heap.size, 3, none⟩ = some (.slice A3 L.length c3) ∧ w'.cell? ⟨w.heap.size + 1, 1, none⟩ = some (.int .i64 d.f1) ∧ w'.cell? ⟨a.g, 0, none⟩ = some (.pointer (some ⟨a.f, 0, none⟩)))
    (first | go_keep | (go_split_ands; refine ⟨?_, ?_, ?_, ?_, ?_, ?_⟩; (exact p0); (exact p1); (exact p2); (exact p3); (exact p4); (exact p5)) | (go_split_ands; refine ⟨?_, ?_, ?_, ?_, ?_, ?_⟩; (exact cell_far HZ.out.2 (by show ¬ (w.heap.size = w.heap.size + 1 + 1); omega) p0); (exact cell_far HZ.out.2 (by show ¬ (w.heap.size = w.heap.size + 1 + 1); omega) p1); (exact cell_far HZ.out.2 (by show ¬ (w.heap.size = w.heap.size + 1 + 1); omega) p2); (exact cell_far HZ.out.2 (by show ¬ (w.heap.size = w.heap.size + 1 + 1); omega) p3); (exact cell_far HZ.out.2 (by show ¬ (w.heap.size + 1 = w.heap.size + 1 + 1); omega) p4); (exact cell_far HZ.out.2 (by show ¬ (a.g = w.heap.size + 1 + 1); exact hgne) p5)))
    (first | (go_at_call 13; refine (hPn.out _).mono ?_; rintro e w5 ⟨A6, c6, rfl, hs5, hf5, hk5⟩; have hx5 := hf5.blk (blkd HX4.out) (hRn.out _ (by omega)); have hy5 := hf5.blk (blkd hy4.out) (hRn.out _ (by omega)); have hz5 := hf5.blk (blkd hz4.out) (hRn.out _ (by omega)); have p0 : w5.cell? ⟨w.heap.size, 0, none⟩ = some (.slice B0 own.length b0) := (blk_cell hx5 0).trans rfl; have p1 : w5.cell? ⟨w.heap.size, 1, none⟩ = some (.slice B1 wh.length b1) := (blk_cell hx5 1).trans rfl; have p2 : w5.cell? ⟨w.heap.size, 2, none⟩ = some (.int .i64 now) := (blk_cell hx5 2).trans rfl; have p3 : w5.cell? ⟨w.heap.size, 3, none⟩ = some (.slice A3 L.length c3) := (blk_cell hx5 3).trans rfl; have p4 : w5.cell? ⟨w.heap.size + 1, 1, none⟩ = some (.int .i64 d.f1) := (blk_cell hy5 1).trans rfl; have p5 : w5.cell? ⟨a.g, 0, none⟩ = some (.pointer (some ⟨a.f, 0, none⟩)) := (blk_cell hs5.blk 0).trans rfl; have z0 : w5.cell? ⟨w.heap.size + 1 + 1, 0, none⟩ = some (.slice none 0 0) := (blk_cell hz5 0).trans rfl; have z1 : w5.cell? ⟨w.heap.size + 1 + 1, 1, none⟩ = some (.slice none 0 0) := (blk_cell hz5 1).trans rfl; have z2 : w5.cell? ⟨w.heap.size + 1 + 1, 2, none⟩ = some (.int .i64 0) := (blk_cell hz5 2).trans rfl; have z3 : w5.cell? ⟨w.heap.size + 1 + 1, 3, none⟩ = some (.slice none 0 0) := (blk_cell hz5 3).trans rfl; have zf := fun j => blk_frozen hz5 j; have HZ := Aside0.mk (st4_blk hz5 (.slice B0 own.length b0) (.slice B1 wh.length b1) (.int .i64 now) (.slice A3 L.length c3)); replace hs5 := Aside0.mk hs5; replace hf5 := Aside0.mk hf5; replace hk5 := Aside0.mk hk5; clear hx5 hy5 hz5))
  go_wp2
  refine bodyPost_ret (results_row2 rfl _ _ (w.heap.size + 1 + 1) 57 _ (0, 0) _ rfl HZ.out.1 Try.underlying57 (by kernel_rfl)) rfl ?_
  exact Did.of (ST.done (hT4.out.drewN _) hs5.out (hX4.out.below (pw_below_drewN (Below.refl _ w4) _)) (below_step hB4.out (pw_below_drewN (Below.refl _ w4) _)) hf5.out (fun k h => h) hk5.out hge.out (h.out.pi.more (by have := hc.out; have := hi.out; omega)) (by have := hnl.out; omega) (by have := hnl.out; omega) hc.out.1 (by have := hi.out; omega) HZ.out.2 (by omega) (by omega) (blk_lt (blkd hz4.out)) hgt.out (hRn.out _ (by omega))) rfl ⟨rfl, rfl⟩

set_option maxHeartbeats 16000000 in
set_option maxRecDepth 100000 in
theorem step_write_yes {w0 w : World} {a : RA} {own F : List Int} {t : Int} {B : List Int} {q : Int} {wh : List Int} {now : Int} {L : List S83} {A0 A1 A3 : Option Addr} {c0 c1 c3 m i : Nat} (h : ST w0 w a own F t B q wh now L (.slice A0 own.length c0) (.slice A1 wh.length c1) (.slice A3 L.length c3) m i) (hi : i < 60)
    (d : S26) (A5 : Option Addr) (c5 : Nat) (hD : DeedWf d) (hDC : Kd.C (Kd.int .u8) w0 A5 d.f5.length d.f5) (hDc : d.f5.length ≤ c5) (hk : d.f0 = 2) (hp : pk own d.f1 d.f2 (d.f5.length : Int)) :
    Calls Try.prog 21 #[.pointer (some ⟨a.g, 0, none⟩), .agg #[.slice A0 own.length c0, .slice A1 wh.length c1, .int .i64 now, .slice A3 L.length c3], .agg #[.int .i64 d.f0, .int .i64 d.f1, .int .i64 d.f2, .int .i64 d.f3, .int .u64 d.f4, .slice A5 d.f5.length c5]] w fun e w' => Did w0 w a (.slice A0 own.length c0) (.slice A1 wh.length c1) q m (i + 1) e w' := by
  obtain ⟨W1, hW1⟩ : ∃ W1, W1 = ((w.alloc (C57 (.slice A0 own.length c0) (.slice A1 wh.length c1) now (.slice A3 L.length c3))).alloc (C26 d.f0 d.f1 d.f2 d.f3 d.f4 A5 d.f5.length c5)).alloc (C57 (.slice none 0 0) (.slice none 0 0) 0 (.slice none 0 0)) := ⟨_, rfl⟩
  have hb1 := below_alloc (below_alloc (below_alloc (Below.refl w.heap.size w) (C57 (.slice A0 own.length c0) (.slice A1 wh.length c1) now (.slice A3 L.length c3))) (C26 d.f0 d.f1 d.f2 d.f3 d.f4 A5 d.f5.length c5)) (C57 (.slice none 0 0) (.slice none 0 0) 0 (.slice none 0 0))
  have hx1 := blk_alloc (blk_alloc (blk_new w (C57 (.slice A0 own.length c0) (.slice A1 wh.length c1) now (.slice A3 L.length c3))) (C26 d.f0 d.f1 d.f2 d.f3 d.f4 A5 d.f5.length c5)) (C57 (.slice none 0 0) (.slice none 0 0) 0 (.slice none 0 0))
  have hy1 := blk_alloc (blk_new (w.alloc (C57 (.slice A0 own.length c0) (.slice A1 wh.length c1) now (.slice A3 L.length c3))) (C26 d.f0 d.f1 d.f2 d.f3 d.f4 A5 d.f5.length c5)) (C57 (.slice none 0 0) (.slice none 0 0) 0 (.slice none 0 0))
  have hz1 := blk_new ((w.alloc (C57 (.slice A0 own.length c0) (.slice A1 wh.length c1) now (.slice A3 L.length c3))).alloc (C26 d.f0 d.f1 d.f2 d.f3 d.f4 A5 d.f5.length c5)) (C57 (.slice none 0 0) (.slice none 0 0) 0 (.slice none 0 0))
  rw [World.size_alloc] at hy1
  rw [World.size_alloc, World.size_alloc] at hz1
  rw [← hW1] at hb1 hx1 hy1 hz1
  have hgw := (h.rs.own_lt a.g (.inl rfl)).2
  have h1 := h.below hb1
  obtain ⟨bx, hbx⟩ : ∃ bx, bx = w.heap.size := ⟨_, rfl⟩
  obtain ⟨W, hW⟩ : ∃ W, W = W1 := ⟨_, rfl⟩
  have x0 : W.cell? ⟨w.heap.size, 0, none⟩ = some (.slice A0 own.length c0) := by rw [hW]; exact (blk_cell hx1 0).trans rfl
  have x1 : W.cell? ⟨w.heap.size, 1, none⟩ = some (.slice A1 wh.length c1) := by rw [hW]; exact (blk_cell hx1 1).trans rfl
  have x2 : W.cell? ⟨w.heap.size, 2, none⟩ = some (.int .i64 now) := by rw [hW]; exact (blk_cell hx1 2).trans rfl
  have x3 : W.cell? ⟨w.heap.size, 3, none⟩ = some (.slice A3 L.length c3) := by rw [hW]; exact (blk_cell hx1 3).trans rfl
  have y0 : W.cell? ⟨w.heap.size + 1, 0, none⟩ = some (.int .i64 d.f0) := by rw [hW]; exact (blk_cell hy1 0).trans rfl
  have y1 : W.cell? ⟨w.heap.size + 1, 1, none⟩ = some (.int .i64 d.f1) := by rw [hW]; exact (blk_cell hy1 1).trans rfl
  have y2 : W.cell? ⟨w.heap.size + 1, 2, none⟩ = some (.int .i64 d.f2) := by rw [hW]; exact (blk_cell hy1 2).trans rfl
  have y3 : W.cell? ⟨w.heap.size + 1, 3, none⟩ = some (.int .i64 d.f3) := by rw [hW]; exact (blk_cell hy1 3).trans rfl
  have y4 : W.cell? ⟨w.heap.size + 1, 4, none⟩ = some (.int .u64 d.f4) := by rw [hW]; exact (blk_cell hy1 4).trans rfl
  have y5 : W.cell? ⟨w.heap.size + 1, 5, none⟩ = some (.slice A5 d.f5.length c5) := by rw [hW]; exact (blk_cell hy1 5).trans rfl
  have hWW := Aside0.mk (hW.trans hW1)
  rw [← hW] at hb1 hx1 hy1 hz1 h1
  clear hW1 hW
  clear W1
  have hX := Aside0.mk ((h.xf.at (Q' := Qb a w.heap.size) (Nat.le_refl _) (fun k hk => hk.imp id (fun e => e.1))).below hb1)
  have hR1 := Aside0.mk h1.rs
  have hQ1 := Aside0.mk (show ∀ k, Qb a w.heap.size k → k < W.heap.size from fun k hk => by
    rcases hk with e | e
    · exact (h1.rs.own_lt k e).2
    · have := blk_lt hz1; omega)
  have hRn := Aside0.mk (show ∀ k, w.heap.size ≤ k → ¬ Rown a k from fun k hk hr => by have := (h.rs.own_lt k hr).2; omega)
  have hgt := Aside0.mk h.bel.size
  have hge := Aside0.mk (fun k hk => (h.rs.own_lt k hk).1)
  have hnl := Aside0.mk (And.intro h.now h.len)
  replace hb1 := Aside0.mk hb1
  replace hx1 := Aside0.mk hx1
  replace hy1 := Aside0.mk hy1
  replace hz1 := Aside0.mk hz1
  replace h1 := Aside0.mk h1
  replace hgw := Aside0.mk hgw
  have hc := Aside0.mk (And.intro h.m96 h.i60)
  have hol := Aside0.mk h.own_len
  replace hDC := Aside0.mk hDC
  replace hDc := Aside0.mk hDc
  replace hD := Aside0.mk hD
  replace hi := Aside0.mk hi
  replace h := Aside0.mk h
  have hR0 := Kd.R_reads' hX.out.r0
  have hR1' := Kd.R_reads' hX.out.r1
  have hV := Kd.V_reads' hX.out.r3
  have hlm : d.f5.length < 9223372036854775808 := Nat.lt_of_le_of_lt hD.out.2.2.2.2.2.1 (by decide)
  have hTh := gunnyref06_There.calls A0 c0 own A1 c1 wh now A3 c3 L d.f1 d.f2 (d.f5.length : Int) _ W hR0.2.2 hR0.2.1 hR1'.2.2 hR1'.2.1 hV.2.2 hV.2.1 (There_some own wh now L (by have := hol.out.1; have := hc.out.1; omega) d.f1 d.f2 (d.f5.length : Int) (by omega))
  have hP := fun W (hW : RS W w0.heap.size a ⟨own, F, t, B, q⟩) hb => write_q w0.heap.size a own F t B q d.f1 d.f2 A5 c5 d.f5 W hW h.out.gd (Kd.C_below hDC.out hb) hlm (fun ad e hp => by subst e; have h1 := Kd.C_lt hDC.out hp (by decide); have h2 := hge.out a.g (.inl rfl); omega)
  have hby : isBytes d.f5 := isBytes.of_wf hD.out.2.2.2.2.2.2
  have hq : qn q (pk own d.f1 d.f2 (d.f5.length : Int)) = wrap64 (q + 1) := if_pos hp
  have hpi := Aside0.mk ((h.out.pi.wrq hp hby).more (by have := hc.out; have := hi.out; omega))
  have hl5 : d.f5.length ≤ 4096 := by have := hp.2.1; have := hp.2.2; omega
  rw [decide_eq_true hp] at hTh
  simp only [decide_eq_true hp, hq] at hP
  replace hTh := Aside0.mk hTh
  replace hP := Aside0.mk hP
  have hgne : ¬ a.g = w.heap.size + 1 + 1 := by have := hgw.out; omega
  have hgne2 : ¬ w.heap.size + 1 + 1 = a.g := by omega
  have hzx : ¬ w.heap.size = w.heap.size + 1 + 1 := by omega
  have hzx2 : ¬ w.heap.size + 1 + 1 = w.heap.size := by omega
  clear hR0 hR1' hV hlm hby hq hp
  have hWr := Aside0.mk (fun W2 (hb2 : Below W.heap.size W W2) => x_write (hX.out.below hb2) (hR1.out.below hb2) (fun k hk => Nat.lt_of_lt_of_le (hQ1.out k hk) hb2.size) (fun k e => .inl e) (below_step h1.out.bel hb2) now d.f1 d.f2 A5 c5 d.f5 (Kd.C_kept_came (Kd.heap_int .u8) hDC.out (below_step h1.out.bel hb2) (fun k hk => by
    rcases hk with e | e
    · exact Kd.R_base hX.out.r0 k e.symm
    · exact Kd.R_base hX.out.r1 k e.symm)) hDc.out (by have := hnl.out.2; have := hc.out.2; omega) (by omega))
  clear hl5
  have e0 : (d.f0 == 0) = false := beq_eq_false_iff_ne.mpr (by omega)
  have e1 : (d.f0 == 1) = false := beq_eq_false_iff_ne.mpr (by omega)
  have e2 : (d.f0 == 2) = true := beq_iff_eq.mpr hk
  clear hk
  go_enter Try.func21, Try.ntmps21
  go_upto_region 1 with (fail)
  rw [← hWW.out]
  go_upto_region 12 with (go_at_call 36; refine hTh.out.mono ?_; rintro e w2 ⟨rfl, hb2⟩; replace hb2 := Aside0.mk hb2)
  clear x0 x1 x2 x3 y0 y1 y2 y3 y4 y5
  have hx2 := Aside0.mk (blk_below hx1.out hb2.out)
  have hy2 := Aside0.mk (blk_below hy1.out hb2.out)
  have hz2 := Aside0.mk (blk_below hz1.out hb2.out)
  have x0 : w2.cell? ⟨w.heap.size, 0, none⟩ = some (.slice A0 own.length c0) := (blk_cell hx2.out 0).trans rfl
  have x1 : w2.cell? ⟨w.heap.size, 1, none⟩ = some (.slice A1 wh.length c1) := (blk_cell hx2.out 1).trans rfl
  have x2 : w2.cell? ⟨w.heap.size, 2, none⟩ = some (.int .i64 now) := (blk_cell hx2.out 2).trans rfl
  have x3 : w2.cell? ⟨w.heap.size, 3, none⟩ = some (.slice A3 L.length c3) := (blk_cell hx2.out 3).trans rfl
  have xf := fun j => blk_frozen hx2.out j
  have y1 : w2.cell? ⟨w.heap.size + 1, 1, none⟩ = some (.int .i64 d.f1) := (blk_cell hy2.out 1).trans rfl
  have y2 : w2.cell? ⟨w.heap.size + 1, 2, none⟩ = some (.int .i64 d.f2) := (blk_cell hy2.out 2).trans rfl
  have y5 : w2.cell? ⟨w.heap.size + 1, 5, none⟩ = some (.slice A5 d.f5.length c5) := (blk_cell hy2.out 5).trans rfl
  go_upto_region 14 with (go_at_call 37; refine (hWr.out w2 hb2.out).mono ?_; rintro e w3 ⟨v0, v1, v3, rfl, hX3, hS3, hF3, hB3⟩; obtain ⟨B0, b0, B1, b1, B3, b3, f0, f1, f3, _, _, _⟩ := hX3.reads; rw [List.length_append] at f3; subst f0 f1 f3; have hnA : ∀ k, w.heap.size ≤ k → k < w.heap.size + 3 → ¬ (some k = (Value.slice A0 own.length c0).ownBlock ∨ some k = (Value.slice A1 wh.length c1).ownBlock) := (fun k hk hk2 e => e.elim (fun e => (hX.out.r0.1 k e.symm).1 (.inr ⟨hk, hk2⟩)) (fun e => (hX.out.r1.1 k e.symm).1 (.inr ⟨hk, hk2⟩))); have hx3 := Aside0.mk (hF3.blk hx2.out (hnA _ (by omega) (by omega))); have hy3 := Aside0.mk (hF3.blk hy2.out (hnA _ (by omega) (by omega))); have hz3 := Aside0.mk (hF3.blk hz2.out (hnA _ (by omega) (by omega))); replace hX3 := Aside0.mk hX3; replace hS3 := Aside0.mk hS3; replace hB3 := Aside0.mk hB3; have hT3 := Aside0.mk ((Far.of_below (below_step hb1.out hb2.out)).then_ hF3); clear hnA hF3 x0 x1 x2 x3 xf y1 y2 y5; have x0 : w3.cell? ⟨w.heap.size, 0, none⟩ = some (.slice A0 own.length c0) := (blk_cell hx3.out 0).trans rfl; have x1 : w3.cell? ⟨w.heap.size, 1, none⟩ = some (.slice A1 wh.length c1) := (blk_cell hx3.out 1).trans rfl; have x2 : w3.cell? ⟨w.heap.size, 2, none⟩ = some (.int .i64 now) := (blk_cell hx3.out 2).trans rfl; have x3 : w3.cell? ⟨w.heap.size, 3, none⟩ = some (.slice A3 L.length c3) := (blk_cell hx3.out 3).trans rfl; have xf := fun j => blk_frozen hx3.out j)
  obtain ⟨HX4, HW4⟩ := st4_blk hx3.out (.slice B0 own.length b0) (.slice B1 wh.length b1) (.int .i64 now) (.slice B3 (L.length + 1) b3)
  unfold st4 at HX4 HW4
  clear x0 x1 x2 x3 xf
  generalize ((((w3.setCell ⟨w.heap.size, 0, none⟩ (.slice B0 own.length b0)).setCell ⟨w.heap.size, 1, none⟩ (.slice B1 wh.length b1)).setCell ⟨w.heap.size, 2, none⟩ (.int .i64 now)).setCell ⟨w.heap.size, 3, none⟩ (.slice B3 (L.length + 1) b3)) = w4 at HX4 HW4 ⊢
  replace HW4 := Aside0.mk HW4
  have hx4 := Aside0.mk HX4
  have hX4 := Aside0.mk (hX3.out.stay HW4.out (fun k e => .inr (by omega)))
  have hS4 := Aside0.mk (hS3.out.stay HW4.out (fun k hr e => hRn.out k (by omega) hr))
  have hB4 := Aside0.mk (hB3.out.trans (HW4.out.below hB3.out.size (fun k e => by have := hgt.out; omega)))
  have hy4 := Aside0.mk (HW4.out.blk hy3.out (by omega))
  have hz4 := Aside0.mk (HW4.out.blk hz3.out (by omega))
  have hT4 := Aside0.mk (hT3.out.trans HW4.out (fun k e => .inr (by omega)))
  clear HX4 HW4 hX3 hS3 hB3 hx3 hy3 hz3
  have x0 : w4.cell? ⟨w.heap.size, 0, none⟩ = some (.slice B0 own.length b0) := (blk_cell hx4.out 0).trans rfl
  have x1 : w4.cell? ⟨w.heap.size, 1, none⟩ = some (.slice B1 wh.length b1) := (blk_cell hx4.out 1).trans rfl
  have x2 : w4.cell? ⟨w.heap.size, 2, none⟩ = some (.int .i64 now) := (blk_cell hx4.out 2).trans rfl
  have x3 : w4.cell? ⟨w.heap.size, 3, none⟩ = some (.slice B3 (L.length + 1) b3) := (blk_cell hx4.out 3).trans rfl
  have y1 : w4.cell? ⟨w.heap.size + 1, 1, none⟩ = some (.int .i64 d.f1) := (blk_cell hy4.out 1).trans rfl
  have y2 : w4.cell? ⟨w.heap.size + 1, 2, none⟩ = some (.int .i64 d.f2) := (blk_cell hy4.out 2).trans rfl
  have y5 : w4.cell? ⟨w.heap.size + 1, 5, none⟩ = some (.slice A5 d.f5.length c5) := (blk_cell hy4.out 5).trans rfl
  have hPn := Aside0.mk (fun n => hP.out (w4.drewN n) (hS4.out.below (pw_below_drewN (Below.refl _ w4) n)) (below_step hB4.out (pw_below_drewN (Below.refl _ w4) n)))
  go_region_held3 (fun w' => w'.cell? ⟨w.heap.size, 0, none⟩ = some (.slice B0 own.length b0) ∧ w'.cell? ⟨w.heap.size, 1, none⟩ = some (.slice B1 wh.length b1) ∧ w'.cell? ⟨w.heap.size, 2, none⟩ = some (.int .i64 now) ∧ w'.cell? ⟨w.heap.size, 3, none⟩ = some (.slice B3 (L.length + 1) b3) ∧ w'.cell? ⟨w.heap.size + 1, 1, none⟩ = some (.int .i64 d.f1) ∧ w'.cell? ⟨w.heap.size + 1, 2, none⟩ = some (.int .i64 d.f2) ∧ w'.cell? ⟨w.heap.size + 1, 5, none⟩ = some (.slice A5 d.f5.length c5))
    (first | go_keep | (go_split_ands; refine ⟨?_, ?_, ?_, ?_, ?_, ?_, ?_⟩; (exact p0); (exact p1); (exact p2); (exact p3); (exact p4); (exact p5); (exact p6)))
    (first | (go_at_call 10; refine (hPn.out _).mono ?_; rintro e w5 ⟨rfl, hs5, hf5⟩; have hnr : ∀ k, w.heap.size ≤ k → ¬ (k = a.g ∨ k = a.b) := (fun k hk e => hRn.out k hk (e.elim .inl (fun e => .inr (.inl e)))); have hx5 := hf5.blk (blkd hx4.out) (hnr _ (by omega)); have hy5 := hf5.blk (blkd hy4.out) (hnr _ (by omega)); have hz5 := hf5.blk (blkd hz4.out) (hnr _ (by omega)); have p0 : w5.cell? ⟨w.heap.size, 0, none⟩ = some (.slice B0 own.length b0) := (blk_cell hx5 0).trans rfl; have p1 : w5.cell? ⟨w.heap.size, 1, none⟩ = some (.slice B1 wh.length b1) := (blk_cell hx5 1).trans rfl; have p2 : w5.cell? ⟨w.heap.size, 2, none⟩ = some (.int .i64 now) := (blk_cell hx5 2).trans rfl; have p3 : w5.cell? ⟨w.heap.size, 3, none⟩ = some (.slice B3 (L.length + 1) b3) := (blk_cell hx5 3).trans rfl; have p4 : w5.cell? ⟨w.heap.size + 1, 1, none⟩ = some (.int .i64 d.f1) := (blk_cell hy5 1).trans rfl; have p5 : w5.cell? ⟨w.heap.size + 1, 2, none⟩ = some (.int .i64 d.f2) := (blk_cell hy5 2).trans rfl; have p6 : w5.cell? ⟨w.heap.size + 1, 5, none⟩ = some (.slice A5 d.f5.length c5) := (blk_cell hy5 5).trans rfl; have z0 : w5.cell? ⟨w.heap.size + 1 + 1, 0, none⟩ = some (.slice none 0 0) := (blk_cell hz5 0).trans rfl; have z1 : w5.cell? ⟨w.heap.size + 1 + 1, 1, none⟩ = some (.slice none 0 0) := (blk_cell hz5 1).trans rfl; have z2 : w5.cell? ⟨w.heap.size + 1 + 1, 2, none⟩ = some (.int .i64 0) := (blk_cell hz5 2).trans rfl; have z3 : w5.cell? ⟨w.heap.size + 1 + 1, 3, none⟩ = some (.slice none 0 0) := (blk_cell hz5 3).trans rfl; have zf := fun j => blk_frozen hz5 j; have HZ := Aside0.mk (st4_blk hz5 (.slice B0 own.length b0) (.slice B1 wh.length b1) (.int .i64 now) (.slice B3 (L.length + 1) b3)); replace hs5 := Aside0.mk hs5; replace hf5 := Aside0.mk hf5; clear hx5 hy5 hz5 hnr))
  go_wp2
  refine bodyPost_ret (results_row2 rfl _ _ (w.heap.size + 1 + 1) 57 _ (0, 0) _ rfl HZ.out.1 Try.underlying57 (by kernel_rfl)) rfl ?_
  exact Did.of (ST.done (hT4.out.drewN _) hs5.out (hX4.out.below (pw_below_drewN (Below.refl _ w4) _)) (below_step hB4.out (pw_below_drewN (Below.refl _ w4) _)) hf5.out (fun k e => e.elim .inl (fun e => .inr (.inl e))) (fun k h => .inl h) hge.out hpi.out (by have := hnl.out; omega) (by rw [List.length_append]; have := hnl.out; show _ + 1 ≤ _; omega) hc.out.1 (by have := hi.out; omega) HZ.out.2 (by omega) (by omega) (blk_lt (blkd hz4.out)) hgt.out (hRn.out _ (by omega))) rfl ⟨rfl, rfl⟩

set_option maxHeartbeats 16000000 in
set_option maxRecDepth 100000 in
theorem step_write_no {w0 w : World} {a : RA} {own F : List Int} {t : Int} {B : List Int} {q : Int} {wh : List Int} {now : Int} {L : List S83} {A0 A1 A3 : Option Addr} {c0 c1 c3 m i : Nat} (h : ST w0 w a own F t B q wh now L (.slice A0 own.length c0) (.slice A1 wh.length c1) (.slice A3 L.length c3) m i) (hi : i < 60)
    (d : S26) (A5 : Option Addr) (c5 : Nat) (hD : DeedWf d) (hDC : Kd.C (Kd.int .u8) w0 A5 d.f5.length d.f5) (hDc : d.f5.length ≤ c5) (hk : d.f0 = 2) (hp : ¬ pk own d.f1 d.f2 (d.f5.length : Int)) :
    Calls Try.prog 21 #[.pointer (some ⟨a.g, 0, none⟩), .agg #[.slice A0 own.length c0, .slice A1 wh.length c1, .int .i64 now, .slice A3 L.length c3], .agg #[.int .i64 d.f0, .int .i64 d.f1, .int .i64 d.f2, .int .i64 d.f3, .int .u64 d.f4, .slice A5 d.f5.length c5]] w fun e w' => Did w0 w a (.slice A0 own.length c0) (.slice A1 wh.length c1) q m (i + 1) e w' := by
  obtain ⟨W1, hW1⟩ : ∃ W1, W1 = ((w.alloc (C57 (.slice A0 own.length c0) (.slice A1 wh.length c1) now (.slice A3 L.length c3))).alloc (C26 d.f0 d.f1 d.f2 d.f3 d.f4 A5 d.f5.length c5)).alloc (C57 (.slice none 0 0) (.slice none 0 0) 0 (.slice none 0 0)) := ⟨_, rfl⟩
  have hb1 := below_alloc (below_alloc (below_alloc (Below.refl w.heap.size w) (C57 (.slice A0 own.length c0) (.slice A1 wh.length c1) now (.slice A3 L.length c3))) (C26 d.f0 d.f1 d.f2 d.f3 d.f4 A5 d.f5.length c5)) (C57 (.slice none 0 0) (.slice none 0 0) 0 (.slice none 0 0))
  have hx1 := blk_alloc (blk_alloc (blk_new w (C57 (.slice A0 own.length c0) (.slice A1 wh.length c1) now (.slice A3 L.length c3))) (C26 d.f0 d.f1 d.f2 d.f3 d.f4 A5 d.f5.length c5)) (C57 (.slice none 0 0) (.slice none 0 0) 0 (.slice none 0 0))
  have hy1 := blk_alloc (blk_new (w.alloc (C57 (.slice A0 own.length c0) (.slice A1 wh.length c1) now (.slice A3 L.length c3))) (C26 d.f0 d.f1 d.f2 d.f3 d.f4 A5 d.f5.length c5)) (C57 (.slice none 0 0) (.slice none 0 0) 0 (.slice none 0 0))
  have hz1 := blk_new ((w.alloc (C57 (.slice A0 own.length c0) (.slice A1 wh.length c1) now (.slice A3 L.length c3))).alloc (C26 d.f0 d.f1 d.f2 d.f3 d.f4 A5 d.f5.length c5)) (C57 (.slice none 0 0) (.slice none 0 0) 0 (.slice none 0 0))
  rw [World.size_alloc] at hy1
  rw [World.size_alloc, World.size_alloc] at hz1
  rw [← hW1] at hb1 hx1 hy1 hz1
  have hgw := (h.rs.own_lt a.g (.inl rfl)).2
  have h1 := h.below hb1
  obtain ⟨bx, hbx⟩ : ∃ bx, bx = w.heap.size := ⟨_, rfl⟩
  obtain ⟨W, hW⟩ : ∃ W, W = W1 := ⟨_, rfl⟩
  have x0 : W.cell? ⟨w.heap.size, 0, none⟩ = some (.slice A0 own.length c0) := by rw [hW]; exact (blk_cell hx1 0).trans rfl
  have x1 : W.cell? ⟨w.heap.size, 1, none⟩ = some (.slice A1 wh.length c1) := by rw [hW]; exact (blk_cell hx1 1).trans rfl
  have x2 : W.cell? ⟨w.heap.size, 2, none⟩ = some (.int .i64 now) := by rw [hW]; exact (blk_cell hx1 2).trans rfl
  have x3 : W.cell? ⟨w.heap.size, 3, none⟩ = some (.slice A3 L.length c3) := by rw [hW]; exact (blk_cell hx1 3).trans rfl
  have y0 : W.cell? ⟨w.heap.size + 1, 0, none⟩ = some (.int .i64 d.f0) := by rw [hW]; exact (blk_cell hy1 0).trans rfl
  have y1 : W.cell? ⟨w.heap.size + 1, 1, none⟩ = some (.int .i64 d.f1) := by rw [hW]; exact (blk_cell hy1 1).trans rfl
  have y2 : W.cell? ⟨w.heap.size + 1, 2, none⟩ = some (.int .i64 d.f2) := by rw [hW]; exact (blk_cell hy1 2).trans rfl
  have y3 : W.cell? ⟨w.heap.size + 1, 3, none⟩ = some (.int .i64 d.f3) := by rw [hW]; exact (blk_cell hy1 3).trans rfl
  have y4 : W.cell? ⟨w.heap.size + 1, 4, none⟩ = some (.int .u64 d.f4) := by rw [hW]; exact (blk_cell hy1 4).trans rfl
  have y5 : W.cell? ⟨w.heap.size + 1, 5, none⟩ = some (.slice A5 d.f5.length c5) := by rw [hW]; exact (blk_cell hy1 5).trans rfl
  have hWW := Aside0.mk (hW.trans hW1)
  rw [← hW] at hb1 hx1 hy1 hz1 h1
  clear hW1 hW
  clear W1
  have hX := Aside0.mk ((h.xf.at (Q' := Qb a w.heap.size) (Nat.le_refl _) (fun k hk => hk.imp id (fun e => e.1))).below hb1)
  have hR1 := Aside0.mk h1.rs
  have hQ1 := Aside0.mk (show ∀ k, Qb a w.heap.size k → k < W.heap.size from fun k hk => by
    rcases hk with e | e
    · exact (h1.rs.own_lt k e).2
    · have := blk_lt hz1; omega)
  have hRn := Aside0.mk (show ∀ k, w.heap.size ≤ k → ¬ Rown a k from fun k hk hr => by have := (h.rs.own_lt k hr).2; omega)
  have hgt := Aside0.mk h.bel.size
  have hge := Aside0.mk (fun k hk => (h.rs.own_lt k hk).1)
  have hnl := Aside0.mk (And.intro h.now h.len)
  replace hb1 := Aside0.mk hb1
  replace hx1 := Aside0.mk hx1
  replace hy1 := Aside0.mk hy1
  replace hz1 := Aside0.mk hz1
  replace h1 := Aside0.mk h1
  replace hgw := Aside0.mk hgw
  have hc := Aside0.mk (And.intro h.m96 h.i60)
  have hol := Aside0.mk h.own_len
  replace hDC := Aside0.mk hDC
  replace hDc := Aside0.mk hDc
  replace hD := Aside0.mk hD
  replace hi := Aside0.mk hi
  replace h := Aside0.mk h
  have hR0 := Kd.R_reads' hX.out.r0
  have hR1' := Kd.R_reads' hX.out.r1
  have hV := Kd.V_reads' hX.out.r3
  have hlm : d.f5.length < 9223372036854775808 := Nat.lt_of_le_of_lt hD.out.2.2.2.2.2.1 (by decide)
  have hTh := gunnyref06_There.calls A0 c0 own A1 c1 wh now A3 c3 L d.f1 d.f2 (d.f5.length : Int) _ W hR0.2.2 hR0.2.1 hR1'.2.2 hR1'.2.1 hV.2.2 hV.2.1 (There_some own wh now L (by have := hol.out.1; have := hc.out.1; omega) d.f1 d.f2 (d.f5.length : Int) (by omega))
  have hP := fun W (hW : RS W w0.heap.size a ⟨own, F, t, B, q⟩) hb => write_q w0.heap.size a own F t B q d.f1 d.f2 A5 c5 d.f5 W hW h.out.gd (Kd.C_below hDC.out hb) hlm (fun ad e hp => by subst e; have h1 := Kd.C_lt hDC.out hp (by decide); have h2 := hge.out a.g (.inl rfl); omega)
  have hby : isBytes d.f5 := isBytes.of_wf hD.out.2.2.2.2.2.2
  have hq : qn q (pk own d.f1 d.f2 (d.f5.length : Int)) = q := if_neg hp
  have hwb : wrB own B d.f1 d.f2 d.f5 = B := by unfold wrB; rw [if_neg hp]
  rw [decide_eq_false hp] at hTh
  simp only [decide_eq_false hp, hq, hwb] at hP
  replace hTh := Aside0.mk hTh
  replace hP := Aside0.mk hP
  have hgne : ¬ a.g = w.heap.size + 1 + 1 := by have := hgw.out; omega
  have hgne2 : ¬ w.heap.size + 1 + 1 = a.g := by omega
  have hzx : ¬ w.heap.size = w.heap.size + 1 + 1 := by omega
  have hzx2 : ¬ w.heap.size + 1 + 1 = w.heap.size := by omega
  clear hR0 hR1' hV hlm hby hq hp hwb
  have e0 : (d.f0 == 0) = false := beq_eq_false_iff_ne.mpr (by omega)
  have e1 : (d.f0 == 1) = false := beq_eq_false_iff_ne.mpr (by omega)
  have e2 : (d.f0 == 2) = true := beq_iff_eq.mpr hk
  clear hk
  go_enter Try.func21, Try.ntmps21
  go_upto_region 1 with (fail)
  rw [← hWW.out]
  go_upto_region 14 with (go_at_call 36; refine hTh.out.mono ?_; rintro e w2 ⟨rfl, hb2⟩; replace hb2 := Aside0.mk hb2)
  clear x0 x1 x2 x3 y0 y1 y2 y3 y4 y5
  have hx2 := Aside0.mk (blk_below hx1.out hb2.out)
  have hy2 := Aside0.mk (blk_below hy1.out hb2.out)
  have hz2 := Aside0.mk (blk_below hz1.out hb2.out)
  have hx4 := hx2
  have hy4 := hy2
  have hz4 := hz2
  have hX4 := Aside0.mk (hX.out.below hb2.out)
  have hS4 := Aside0.mk (hR1.out.below hb2.out)
  have hB4 := Aside0.mk (below_step h1.out.bel hb2.out)
  have hT4 := Aside0.mk (Far.of_below (S := fun k => some k = (Value.slice A0 own.length c0).ownBlock ∨ some k = (Value.slice A1 wh.length c1).ownBlock) (below_step hb1.out hb2.out))
  have x0 : w2.cell? ⟨w.heap.size, 0, none⟩ = some (.slice A0 own.length c0) := (blk_cell hx4.out 0).trans rfl
  have x1 : w2.cell? ⟨w.heap.size, 1, none⟩ = some (.slice A1 wh.length c1) := (blk_cell hx4.out 1).trans rfl
  have x2 : w2.cell? ⟨w.heap.size, 2, none⟩ = some (.int .i64 now) := (blk_cell hx4.out 2).trans rfl
  have x3 : w2.cell? ⟨w.heap.size, 3, none⟩ = some (.slice A3 L.length c3) := (blk_cell hx4.out 3).trans rfl
  have y1 : w2.cell? ⟨w.heap.size + 1, 1, none⟩ = some (.int .i64 d.f1) := (blk_cell hy4.out 1).trans rfl
  have y2 : w2.cell? ⟨w.heap.size + 1, 2, none⟩ = some (.int .i64 d.f2) := (blk_cell hy4.out 2).trans rfl
  have y5 : w2.cell? ⟨w.heap.size + 1, 5, none⟩ = some (.slice A5 d.f5.length c5) := (blk_cell hy4.out 5).trans rfl
  have hPn := Aside0.mk (fun n => hP.out (w2.drewN n) (hS4.out.below (pw_below_drewN (Below.refl _ w2) n)) (below_step hB4.out (pw_below_drewN (Below.refl _ w2) n)))
  go_region_held3 (fun w' => w'.cell? ⟨w.heap.size, 0, none⟩ = some (.slice A0 own.length c0) ∧ w'.cell? ⟨w.heap.size, 1, none⟩ = some (.slice A1 wh.length c1) ∧ w'.cell? ⟨w.heap.size, 2, none⟩ = some (.int .i64 now) ∧ w'.cell? ⟨w.heap.size, 3, none⟩ = some (.slice A3 L.length c3) ∧ w'.cell? ⟨w.heap.size + 1, 1, none⟩ = some (.int .i64 d.f1) ∧ w'.cell? ⟨w.heap.size + 1, 2, none⟩ = some (.int .i64 d.f2) ∧ w'.cell? ⟨w.heap.size + 1, 5, none⟩ = some (.slice A5 d.f5.length c5))
    (first | go_keep | (go_split_ands; refine ⟨?_, ?_, ?_, ?_, ?_, ?_, ?_⟩; (exact p0); (exact p1); (exact p2); (exact p3); (exact p4); (exact p5); (exact p6)))
    (first | (go_at_call 10; refine (hPn.out _).mono ?_; rintro e w5 ⟨rfl, hs5, hf5⟩; have hnr : ∀ k, w.heap.size ≤ k → ¬ (k = a.g ∨ k = a.b) := (fun k hk e => hRn.out k hk (e.elim .inl (fun e => .inr (.inl e)))); have hx5 := hf5.blk (blkd hx4.out) (hnr _ (by omega)); have hy5 := hf5.blk (blkd hy4.out) (hnr _ (by omega)); have hz5 := hf5.blk (blkd hz4.out) (hnr _ (by omega)); have p0 : w5.cell? ⟨w.heap.size, 0, none⟩ = some (.slice A0 own.length c0) := (blk_cell hx5 0).trans rfl; have p1 : w5.cell? ⟨w.heap.size, 1, none⟩ = some (.slice A1 wh.length c1) := (blk_cell hx5 1).trans rfl; have p2 : w5.cell? ⟨w.heap.size, 2, none⟩ = some (.int .i64 now) := (blk_cell hx5 2).trans rfl; have p3 : w5.cell? ⟨w.heap.size, 3, none⟩ = some (.slice A3 L.length c3) := (blk_cell hx5 3).trans rfl; have p4 : w5.cell? ⟨w.heap.size + 1, 1, none⟩ = some (.int .i64 d.f1) := (blk_cell hy5 1).trans rfl; have p5 : w5.cell? ⟨w.heap.size + 1, 2, none⟩ = some (.int .i64 d.f2) := (blk_cell hy5 2).trans rfl; have p6 : w5.cell? ⟨w.heap.size + 1, 5, none⟩ = some (.slice A5 d.f5.length c5) := (blk_cell hy5 5).trans rfl; have z0 : w5.cell? ⟨w.heap.size + 1 + 1, 0, none⟩ = some (.slice none 0 0) := (blk_cell hz5 0).trans rfl; have z1 : w5.cell? ⟨w.heap.size + 1 + 1, 1, none⟩ = some (.slice none 0 0) := (blk_cell hz5 1).trans rfl; have z2 : w5.cell? ⟨w.heap.size + 1 + 1, 2, none⟩ = some (.int .i64 0) := (blk_cell hz5 2).trans rfl; have z3 : w5.cell? ⟨w.heap.size + 1 + 1, 3, none⟩ = some (.slice none 0 0) := (blk_cell hz5 3).trans rfl; have zf := fun j => blk_frozen hz5 j; have HZ := Aside0.mk (st4_blk hz5 (.slice A0 own.length c0) (.slice A1 wh.length c1) (.int .i64 now) (.slice A3 L.length c3)); replace hs5 := Aside0.mk hs5; replace hf5 := Aside0.mk hf5; clear hx5 hy5 hz5 hnr))
  go_wp2
  refine bodyPost_ret (results_row2 rfl _ _ (w.heap.size + 1 + 1) 57 _ (0, 0) _ rfl HZ.out.1 Try.underlying57 (by kernel_rfl)) rfl ?_
  exact Did.of (ST.done (hT4.out.drewN _) hs5.out (hX4.out.below (pw_below_drewN (Below.refl _ w2) _)) (below_step hB4.out (pw_below_drewN (Below.refl _ w2) _)) hf5.out (fun k e => e.elim .inl (fun e => .inr (.inl e))) (fun k h => .inl h) hge.out (h.out.pi.more (by have := hc.out; have := hi.out; omega)) (by have := hnl.out; omega) (by have := hnl.out; omega) hc.out.1 (by have := hi.out; omega) HZ.out.2 (by omega) (by omega) (blk_lt (blkd hz4.out)) hgt.out (hRn.out _ (by omega))) rfl ⟨rfl, rfl⟩

set_option maxHeartbeats 16000000 in
set_option maxRecDepth 100000 in
theorem step_read_yes {w0 w : World} {a : RA} {own F : List Int} {t : Int} {B : List Int} {q : Int} {wh : List Int} {now : Int} {L : List S83} {A0 A1 A3 : Option Addr} {c0 c1 c3 m i : Nat} (h : ST w0 w a own F t B q wh now L (.slice A0 own.length c0) (.slice A1 wh.length c1) (.slice A3 L.length c3) m i) (hi : i < 60)
    (d : S26) (A5 : Option Addr) (c5 : Nat) (hD : DeedWf d) (hDC : Kd.C (Kd.int .u8) w0 A5 d.f5.length d.f5) (hDc : d.f5.length ≤ c5) (hk : d.f0 = 3) (hp : pk own d.f1 d.f2 d.f3) :
    Calls Try.prog 21 #[.pointer (some ⟨a.g, 0, none⟩), .agg #[.slice A0 own.length c0, .slice A1 wh.length c1, .int .i64 now, .slice A3 L.length c3], .agg #[.int .i64 d.f0, .int .i64 d.f1, .int .i64 d.f2, .int .i64 d.f3, .int .u64 d.f4, .slice A5 d.f5.length c5]] w fun e w' => Did w0 w a (.slice A0 own.length c0) (.slice A1 wh.length c1) q m (i + 1) e w' := by
  obtain ⟨W1, hW1⟩ : ∃ W1, W1 = ((w.alloc (C57 (.slice A0 own.length c0) (.slice A1 wh.length c1) now (.slice A3 L.length c3))).alloc (C26 d.f0 d.f1 d.f2 d.f3 d.f4 A5 d.f5.length c5)).alloc (C57 (.slice none 0 0) (.slice none 0 0) 0 (.slice none 0 0)) := ⟨_, rfl⟩
  have hb1 := below_alloc (below_alloc (below_alloc (Below.refl w.heap.size w) (C57 (.slice A0 own.length c0) (.slice A1 wh.length c1) now (.slice A3 L.length c3))) (C26 d.f0 d.f1 d.f2 d.f3 d.f4 A5 d.f5.length c5)) (C57 (.slice none 0 0) (.slice none 0 0) 0 (.slice none 0 0))
  have hx1 := blk_alloc (blk_alloc (blk_new w (C57 (.slice A0 own.length c0) (.slice A1 wh.length c1) now (.slice A3 L.length c3))) (C26 d.f0 d.f1 d.f2 d.f3 d.f4 A5 d.f5.length c5)) (C57 (.slice none 0 0) (.slice none 0 0) 0 (.slice none 0 0))
  have hy1 := blk_alloc (blk_new (w.alloc (C57 (.slice A0 own.length c0) (.slice A1 wh.length c1) now (.slice A3 L.length c3))) (C26 d.f0 d.f1 d.f2 d.f3 d.f4 A5 d.f5.length c5)) (C57 (.slice none 0 0) (.slice none 0 0) 0 (.slice none 0 0))
  have hz1 := blk_new ((w.alloc (C57 (.slice A0 own.length c0) (.slice A1 wh.length c1) now (.slice A3 L.length c3))).alloc (C26 d.f0 d.f1 d.f2 d.f3 d.f4 A5 d.f5.length c5)) (C57 (.slice none 0 0) (.slice none 0 0) 0 (.slice none 0 0))
  rw [World.size_alloc] at hy1
  rw [World.size_alloc, World.size_alloc] at hz1
  rw [← hW1] at hb1 hx1 hy1 hz1
  have hgw := (h.rs.own_lt a.g (.inl rfl)).2
  have h1 := h.below hb1
  obtain ⟨bx, hbx⟩ : ∃ bx, bx = w.heap.size := ⟨_, rfl⟩
  obtain ⟨W, hW⟩ : ∃ W, W = W1 := ⟨_, rfl⟩
  have x0 : W.cell? ⟨w.heap.size, 0, none⟩ = some (.slice A0 own.length c0) := by rw [hW]; exact (blk_cell hx1 0).trans rfl
  have x1 : W.cell? ⟨w.heap.size, 1, none⟩ = some (.slice A1 wh.length c1) := by rw [hW]; exact (blk_cell hx1 1).trans rfl
  have x2 : W.cell? ⟨w.heap.size, 2, none⟩ = some (.int .i64 now) := by rw [hW]; exact (blk_cell hx1 2).trans rfl
  have x3 : W.cell? ⟨w.heap.size, 3, none⟩ = some (.slice A3 L.length c3) := by rw [hW]; exact (blk_cell hx1 3).trans rfl
  have y0 : W.cell? ⟨w.heap.size + 1, 0, none⟩ = some (.int .i64 d.f0) := by rw [hW]; exact (blk_cell hy1 0).trans rfl
  have y1 : W.cell? ⟨w.heap.size + 1, 1, none⟩ = some (.int .i64 d.f1) := by rw [hW]; exact (blk_cell hy1 1).trans rfl
  have y2 : W.cell? ⟨w.heap.size + 1, 2, none⟩ = some (.int .i64 d.f2) := by rw [hW]; exact (blk_cell hy1 2).trans rfl
  have y3 : W.cell? ⟨w.heap.size + 1, 3, none⟩ = some (.int .i64 d.f3) := by rw [hW]; exact (blk_cell hy1 3).trans rfl
  have y4 : W.cell? ⟨w.heap.size + 1, 4, none⟩ = some (.int .u64 d.f4) := by rw [hW]; exact (blk_cell hy1 4).trans rfl
  have y5 : W.cell? ⟨w.heap.size + 1, 5, none⟩ = some (.slice A5 d.f5.length c5) := by rw [hW]; exact (blk_cell hy1 5).trans rfl
  have hWW := Aside0.mk (hW.trans hW1)
  rw [← hW] at hb1 hx1 hy1 hz1 h1
  clear hW1 hW
  clear W1
  have hX := Aside0.mk ((h.xf.at (Q' := Qb a w.heap.size) (Nat.le_refl _) (fun k hk => hk.imp id (fun e => e.1))).below hb1)
  have hR1 := Aside0.mk h1.rs
  have hQ1 := Aside0.mk (show ∀ k, Qb a w.heap.size k → k < W.heap.size from fun k hk => by
    rcases hk with e | e
    · exact (h1.rs.own_lt k e).2
    · have := blk_lt hz1; omega)
  have hRn := Aside0.mk (show ∀ k, w.heap.size ≤ k → ¬ Rown a k from fun k hk hr => by have := (h.rs.own_lt k hr).2; omega)
  have hgt := Aside0.mk h.bel.size
  have hge := Aside0.mk (fun k hk => (h.rs.own_lt k hk).1)
  have hnl := Aside0.mk (And.intro h.now h.len)
  replace hb1 := Aside0.mk hb1
  replace hx1 := Aside0.mk hx1
  replace hy1 := Aside0.mk hy1
  replace hz1 := Aside0.mk hz1
  replace h1 := Aside0.mk h1
  replace hgw := Aside0.mk hgw
  have hc := Aside0.mk (And.intro h.m96 h.i60)
  have hol := Aside0.mk h.own_len
  replace hDC := Aside0.mk hDC
  replace hDc := Aside0.mk hDc
  replace hD := Aside0.mk hD
  replace hi := Aside0.mk hi
  replace h := Aside0.mk h
  have hR0 := Kd.R_reads' hX.out.r0
  have hR1' := Kd.R_reads' hX.out.r1
  have hV := Kd.V_reads' hX.out.r3
  have hs3 : d.f3 < 9223372036854775808 := by have := bounds_i64 hD.out.2.2.2.1; omega
  have hTh := gunnyref06_There.calls A0 c0 own A1 c1 wh now A3 c3 L d.f1 d.f2 d.f3 _ W hR0.2.2 hR0.2.1 hR1'.2.2 hR1'.2.1 hV.2.2 hV.2.1 (There_some own wh now L (by have := hol.out.1; have := hc.out.1; omega) d.f1 d.f2 d.f3 hs3)
  have hP := fun W (hW : RS W w0.heap.size a ⟨own, F, t, B, q⟩) => read_q w0.heap.size a own F t B q d.f1 d.f2 d.f3 W hW h.out.gd hs3
  have hRr := fun W2 (hb2 : Below W.heap.size W W2) => gunnyref06_Read.calls 500000 A0 c0 own A1 c1 wh now A3 c3 L d.f1 d.f2 d.f3 (part own B d.f1 d.f2 d.f3) W2 (Kd.C_below hR0.2.2 hb2) hR0.2.1 (Kd.C_below hR1'.2.2 hb2) hR1'.2.1 (Kd.C_below hV.2.2 hb2) hV.2.1 (Read_part h.out.pi (by have := hnl.out.2; have := hc.out.2; omega) hp (fun x y z e => h.out.pi.reads x y z e))
  have hq : qn q (pk own d.f1 d.f2 d.f3) = wrap64 (q + 1) := if_pos hp
  rw [decide_eq_true hp] at hTh
  simp only [decide_eq_true hp, hq] at hP
  obtain ⟨pb, hpb⟩ : ∃ pb, pb = part own B d.f1 d.f2 d.f3 := ⟨_, rfl⟩
  rw [← hpb] at hRr
  simp only [← hpb] at hP
  replace hRr := Aside0.mk hRr
  replace hTh := Aside0.mk hTh
  replace hP := Aside0.mk hP
  have hgne : ¬ a.g = w.heap.size + 1 + 1 := by have := hgw.out; omega
  have hgne2 : ¬ w.heap.size + 1 + 1 = a.g := by omega
  have hzx : ¬ w.heap.size = w.heap.size + 1 + 1 := by omega
  have hzx2 : ¬ w.heap.size + 1 + 1 = w.heap.size := by omega
  clear hR0 hR1' hV hs3 hq hp hpb
  have e0 : (d.f0 == 0) = false := beq_eq_false_iff_ne.mpr (by omega)
  have e1 : (d.f0 == 1) = false := beq_eq_false_iff_ne.mpr (by omega)
  have e2 : (d.f0 == 2) = false := beq_eq_false_iff_ne.mpr (by omega)
  have e3 : (d.f0 == 3) = true := beq_iff_eq.mpr hk
  clear hk
  go_enter Try.func21, Try.ntmps21
  go_upto_region 1 with (fail)
  rw [← hWW.out]
  go_upto_region 19 with (go_at_call 36; refine hTh.out.mono ?_; rintro e w2 ⟨rfl, hb2⟩; replace hb2 := Aside0.mk hb2)
  clear x0 x1 x2 x3 y0 y1 y2 y3 y4 y5
  have x0 : w2.cell? ⟨w.heap.size, 0, none⟩ = some (.slice A0 own.length c0) := (blk_cell (blk_below hx1.out hb2.out) 0).trans rfl
  have x1 : w2.cell? ⟨w.heap.size, 1, none⟩ = some (.slice A1 wh.length c1) := (blk_cell (blk_below hx1.out hb2.out) 1).trans rfl
  have x2 : w2.cell? ⟨w.heap.size, 2, none⟩ = some (.int .i64 now) := (blk_cell (blk_below hx1.out hb2.out) 2).trans rfl
  have x3 : w2.cell? ⟨w.heap.size, 3, none⟩ = some (.slice A3 L.length c3) := (blk_cell (blk_below hx1.out hb2.out) 3).trans rfl
  have y1 : w2.cell? ⟨w.heap.size + 1, 1, none⟩ = some (.int .i64 d.f1) := (blk_cell (blk_below hy1.out hb2.out) 1).trans rfl
  have y2 : w2.cell? ⟨w.heap.size + 1, 2, none⟩ = some (.int .i64 d.f2) := (blk_cell (blk_below hy1.out hb2.out) 2).trans rfl
  have y3 : w2.cell? ⟨w.heap.size + 1, 3, none⟩ = some (.int .i64 d.f3) := (blk_cell (blk_below hy1.out hb2.out) 3).trans rfl
  go_upto_region 20 with (go_at_call 23; refine (hRr.out w2 hb2.out).mono ?_; rintro e w3 ⟨v, rfl, hrv, hb3⟩; obtain ⟨Aw, cw, rfl⟩ := Kd.R_slice hrv; replace hrv := Aside0.mk hrv; have hb3 := Aside0.mk (below_step hb2.out hb3))
  clear x0 x1 x2 x3 y1 y2 y3
  have y1 : w3.cell? ⟨w.heap.size + 1, 1, none⟩ = some (.int .i64 d.f1) := (blk_cell (blk_below hy1.out hb3.out) 1).trans rfl
  have y2 : w3.cell? ⟨w.heap.size + 1, 2, none⟩ = some (.int .i64 d.f2) := (blk_cell (blk_below hy1.out hb3.out) 2).trans rfl
  have y3 : w3.cell? ⟨w.heap.size + 1, 3, none⟩ = some (.int .i64 d.f3) := (blk_cell (blk_below hy1.out hb3.out) 3).trans rfl
  have hP3 := Aside0.mk (hP.out w3 (hR1.out.below hb3.out))
  go_upto_region 21 with (go_at_call 11; refine hP3.out.mono ?_; rintro e w4 ⟨Ab, cb, rfl, hrb, hs4, hf4⟩; replace hrb := Aside0.mk hrb; replace hs4 := Aside0.mk hs4; replace hf4 := Aside0.mk hf4)
  have hng : ∀ k, w.heap.size ≤ k → ¬ (k = a.g) := fun k hk e => hRn.out k hk (.inl e)
  have hx4 := Aside0.mk (hf4.out.blk (blk_below hx1.out hb3.out) (hng _ (by omega)))
  have hy4 := Aside0.mk (hf4.out.blk (blk_below hy1.out hb3.out) (hng _ (by omega)))
  have hz4 := Aside0.mk (hf4.out.blk (blk_below hz1.out hb3.out) (hng _ (by omega)))
  have hCb := Aside0.mk (Kd.R_reads' hrb.out).2
  have hCw := Aside0.mk (And.intro (Kd.R_reads' hrv.out).2.1 (C_stay (Kd.R_reads' hrv.out).2.2 hf4.out (fun ad e hp => by
    subst e
    have h1 := Kd.R_base hrv.out ad.block (by simp [Value.ownBlock])
    exact hng _ (Nat.le_trans hb1.out.size (Nat.le_trans hb2.out.size h1)))))
  have hBn := Aside0.mk (fun n => gunnyref01_Bytes.calls Ab cb pb Aw cw pb true (w4.drewN n) (Kd.C_below hCb.out.2 (pw_below_drewN (Below.refl _ w4) n)) hCb.out.1 (Kd.C_below hCw.out.2 (pw_below_drewN (Below.refl _ w4) n)) hCw.out.1 (bytes_self pb))
  clear y1 y2 y3 hng
  have x0 : w4.cell? ⟨w.heap.size, 0, none⟩ = some (.slice A0 own.length c0) := (blk_cell hx4.out 0).trans rfl
  have x1 : w4.cell? ⟨w.heap.size, 1, none⟩ = some (.slice A1 wh.length c1) := (blk_cell hx4.out 1).trans rfl
  have x2 : w4.cell? ⟨w.heap.size, 2, none⟩ = some (.int .i64 now) := (blk_cell hx4.out 2).trans rfl
  have x3 : w4.cell? ⟨w.heap.size, 3, none⟩ = some (.slice A3 L.length c3) := (blk_cell hx4.out 3).trans rfl
  go_region_held3 (fun w' => w'.cell? ⟨w.heap.size, 0, none⟩ = some (.slice A0 own.length c0) ∧ w'.cell? ⟨w.heap.size, 1, none⟩ = some (.slice A1 wh.length c1) ∧ w'.cell? ⟨w.heap.size, 2, none⟩ = some (.int .i64 now) ∧ w'.cell? ⟨w.heap.size, 3, none⟩ = some (.slice A3 L.length c3))
    (first | go_keep | (go_split_ands; refine ⟨?_, ?_, ?_, ?_⟩; (exact p0); (exact p1); (exact p2); (exact p3)))
    (first | (go_at_call 14; refine (hBn.out _).mono ?_; rintro e w5 ⟨rfl, hd5⟩; replace hd5 := hd5.below; have hx5 := blk_below (blkd hx4.out) hd5; have hz5 := blk_below (blkd hz4.out) hd5; have p0 : w5.cell? ⟨w.heap.size, 0, none⟩ = some (.slice A0 own.length c0) := (blk_cell hx5 0).trans rfl; have p1 : w5.cell? ⟨w.heap.size, 1, none⟩ = some (.slice A1 wh.length c1) := (blk_cell hx5 1).trans rfl; have p2 : w5.cell? ⟨w.heap.size, 2, none⟩ = some (.int .i64 now) := (blk_cell hx5 2).trans rfl; have p3 : w5.cell? ⟨w.heap.size, 3, none⟩ = some (.slice A3 L.length c3) := (blk_cell hx5 3).trans rfl; have z0 : w5.cell? ⟨w.heap.size + 1 + 1, 0, none⟩ = some (.slice none 0 0) := (blk_cell hz5 0).trans rfl; have z1 : w5.cell? ⟨w.heap.size + 1 + 1, 1, none⟩ = some (.slice none 0 0) := (blk_cell hz5 1).trans rfl; have z2 : w5.cell? ⟨w.heap.size + 1 + 1, 2, none⟩ = some (.int .i64 0) := (blk_cell hz5 2).trans rfl; have z3 : w5.cell? ⟨w.heap.size + 1 + 1, 3, none⟩ = some (.slice none 0 0) := (blk_cell hz5 3).trans rfl; have zf := fun j => blk_frozen hz5 j; have HZ := Aside0.mk (st4_blk hz5 (.slice A0 own.length c0) (.slice A1 wh.length c1) (.int .i64 now) (.slice A3 L.length c3)); have hs5 := Aside0.mk ((hs4.out.below (pw_below_drewN (Below.refl _ w4) _)).below hd5); have hf5 := Aside0.mk ((hf4.out.drewN _).then_ (Far.of_below hd5)); clear hd5 hx5 hz5))
  go_wp2
  refine bodyPost_ret (results_row2 rfl _ _ (w.heap.size + 1 + 1) 57 _ (0, 0) _ rfl HZ.out.1 Try.underlying57 (by kernel_rfl)) rfl ?_
  exact Did.of (ST.done (Far.of_below (below_step hb1.out hb3.out)) hs5.out (hX.out.below hb3.out) (below_step h1.out.bel hb3.out) hf5.out (fun k e => .inl e) (fun k h => .inl h) hge.out (h.out.pi.more (by have := hc.out; have := hi.out; omega)) (by have := hnl.out; omega) (by have := hnl.out; omega) hc.out.1 (by have := hi.out; omega) HZ.out.2 (by omega) (by omega) (by have := blk_lt hz1.out; have := hb3.out.size; omega) hgt.out (hRn.out _ (by omega))) rfl ⟨rfl, rfl⟩

set_option maxHeartbeats 16000000 in
set_option maxRecDepth 100000 in
theorem step_read_no {w0 w : World} {a : RA} {own F : List Int} {t : Int} {B : List Int} {q : Int} {wh : List Int} {now : Int} {L : List S83} {A0 A1 A3 : Option Addr} {c0 c1 c3 m i : Nat} (h : ST w0 w a own F t B q wh now L (.slice A0 own.length c0) (.slice A1 wh.length c1) (.slice A3 L.length c3) m i) (hi : i < 60)
    (d : S26) (A5 : Option Addr) (c5 : Nat) (hD : DeedWf d) (hDC : Kd.C (Kd.int .u8) w0 A5 d.f5.length d.f5) (hDc : d.f5.length ≤ c5) (hk : d.f0 = 3) (hp : ¬ pk own d.f1 d.f2 d.f3) :
    Calls Try.prog 21 #[.pointer (some ⟨a.g, 0, none⟩), .agg #[.slice A0 own.length c0, .slice A1 wh.length c1, .int .i64 now, .slice A3 L.length c3], .agg #[.int .i64 d.f0, .int .i64 d.f1, .int .i64 d.f2, .int .i64 d.f3, .int .u64 d.f4, .slice A5 d.f5.length c5]] w fun e w' => Did w0 w a (.slice A0 own.length c0) (.slice A1 wh.length c1) q m (i + 1) e w' := by
  obtain ⟨W1, hW1⟩ : ∃ W1, W1 = ((w.alloc (C57 (.slice A0 own.length c0) (.slice A1 wh.length c1) now (.slice A3 L.length c3))).alloc (C26 d.f0 d.f1 d.f2 d.f3 d.f4 A5 d.f5.length c5)).alloc (C57 (.slice none 0 0) (.slice none 0 0) 0 (.slice none 0 0)) := ⟨_, rfl⟩
  have hb1 := below_alloc (below_alloc (below_alloc (Below.refl w.heap.size w) (C57 (.slice A0 own.length c0) (.slice A1 wh.length c1) now (.slice A3 L.length c3))) (C26 d.f0 d.f1 d.f2 d.f3 d.f4 A5 d.f5.length c5)) (C57 (.slice none 0 0) (.slice none 0 0) 0 (.slice none 0 0))
  have hx1 := blk_alloc (blk_alloc (blk_new w (C57 (.slice A0 own.length c0) (.slice A1 wh.length c1) now (.slice A3 L.length c3))) (C26 d.f0 d.f1 d.f2 d.f3 d.f4 A5 d.f5.length c5)) (C57 (.slice none 0 0) (.slice none 0 0) 0 (.slice none 0 0))
  have hy1 := blk_alloc (blk_new (w.alloc (C57 (.slice A0 own.length c0) (.slice A1 wh.length c1) now (.slice A3 L.length c3))) (C26 d.f0 d.f1 d.f2 d.f3 d.f4 A5 d.f5.length c5)) (C57 (.slice none 0 0) (.slice none 0 0) 0 (.slice none 0 0))
  have hz1 := blk_new ((w.alloc (C57 (.slice A0 own.length c0) (.slice A1 wh.length c1) now (.slice A3 L.length c3))).alloc (C26 d.f0 d.f1 d.f2 d.f3 d.f4 A5 d.f5.length c5)) (C57 (.slice none 0 0) (.slice none 0 0) 0 (.slice none 0 0))
  rw [World.size_alloc] at hy1
  rw [World.size_alloc, World.size_alloc] at hz1
  rw [← hW1] at hb1 hx1 hy1 hz1
  have hgw := (h.rs.own_lt a.g (.inl rfl)).2
  have h1 := h.below hb1
  obtain ⟨bx, hbx⟩ : ∃ bx, bx = w.heap.size := ⟨_, rfl⟩
  obtain ⟨W, hW⟩ : ∃ W, W = W1 := ⟨_, rfl⟩
  have x0 : W.cell? ⟨w.heap.size, 0, none⟩ = some (.slice A0 own.length c0) := by rw [hW]; exact (blk_cell hx1 0).trans rfl
  have x1 : W.cell? ⟨w.heap.size, 1, none⟩ = some (.slice A1 wh.length c1) := by rw [hW]; exact (blk_cell hx1 1).trans rfl
  have x2 : W.cell? ⟨w.heap.size, 2, none⟩ = some (.int .i64 now) := by rw [hW]; exact (blk_cell hx1 2).trans rfl
  have x3 : W.cell? ⟨w.heap.size, 3, none⟩ = some (.slice A3 L.length c3) := by rw [hW]; exact (blk_cell hx1 3).trans rfl
  have y0 : W.cell? ⟨w.heap.size + 1, 0, none⟩ = some (.int .i64 d.f0) := by rw [hW]; exact (blk_cell hy1 0).trans rfl
  have y1 : W.cell? ⟨w.heap.size + 1, 1, none⟩ = some (.int .i64 d.f1) := by rw [hW]; exact (blk_cell hy1 1).trans rfl
  have y2 : W.cell? ⟨w.heap.size + 1, 2, none⟩ = some (.int .i64 d.f2) := by rw [hW]; exact (blk_cell hy1 2).trans rfl
  have y3 : W.cell? ⟨w.heap.size + 1, 3, none⟩ = some (.int .i64 d.f3) := by rw [hW]; exact (blk_cell hy1 3).trans rfl
  have y4 : W.cell? ⟨w.heap.size + 1, 4, none⟩ = some (.int .u64 d.f4) := by rw [hW]; exact (blk_cell hy1 4).trans rfl
  have y5 : W.cell? ⟨w.heap.size + 1, 5, none⟩ = some (.slice A5 d.f5.length c5) := by rw [hW]; exact (blk_cell hy1 5).trans rfl
  have hWW := Aside0.mk (hW.trans hW1)
  rw [← hW] at hb1 hx1 hy1 hz1 h1
  clear hW1 hW
  clear W1
  have hX := Aside0.mk ((h.xf.at (Q' := Qb a w.heap.size) (Nat.le_refl _) (fun k hk => hk.imp id (fun e => e.1))).below hb1)
  have hR1 := Aside0.mk h1.rs
  have hQ1 := Aside0.mk (show ∀ k, Qb a w.heap.size k → k < W.heap.size from fun k hk => by
    rcases hk with e | e
    · exact (h1.rs.own_lt k e).2
    · have := blk_lt hz1; omega)
  have hRn := Aside0.mk (show ∀ k, w.heap.size ≤ k → ¬ Rown a k from fun k hk hr => by have := (h.rs.own_lt k hr).2; omega)
  have hgt := Aside0.mk h.bel.size
  have hge := Aside0.mk (fun k hk => (h.rs.own_lt k hk).1)
  have hnl := Aside0.mk (And.intro h.now h.len)
  replace hb1 := Aside0.mk hb1
  replace hx1 := Aside0.mk hx1
  replace hy1 := Aside0.mk hy1
  replace hz1 := Aside0.mk hz1
  replace h1 := Aside0.mk h1
  replace hgw := Aside0.mk hgw
  have hc := Aside0.mk (And.intro h.m96 h.i60)
  have hol := Aside0.mk h.own_len
  replace hDC := Aside0.mk hDC
  replace hDc := Aside0.mk hDc
  replace hD := Aside0.mk hD
  replace hi := Aside0.mk hi
  replace h := Aside0.mk h
  have hR0 := Kd.R_reads' hX.out.r0
  have hR1' := Kd.R_reads' hX.out.r1
  have hV := Kd.V_reads' hX.out.r3
  have hs3 : d.f3 < 9223372036854775808 := by have := bounds_i64 hD.out.2.2.2.1; omega
  have hTh := gunnyref06_There.calls A0 c0 own A1 c1 wh now A3 c3 L d.f1 d.f2 d.f3 _ W hR0.2.2 hR0.2.1 hR1'.2.2 hR1'.2.1 hV.2.2 hV.2.1 (There_some own wh now L (by have := hol.out.1; have := hc.out.1; omega) d.f1 d.f2 d.f3 hs3)
  have hP := fun W (hW : RS W w0.heap.size a ⟨own, F, t, B, q⟩) => read_q w0.heap.size a own F t B q d.f1 d.f2 d.f3 W hW h.out.gd hs3
  have hq : qn q (pk own d.f1 d.f2 d.f3) = q := if_neg hp
  have hpb : part own B d.f1 d.f2 d.f3 = [] := by unfold part; rw [if_neg hp]
  rw [decide_eq_false hp] at hTh
  simp only [decide_eq_false hp, hq, hpb] at hP
  replace hTh := Aside0.mk hTh
  replace hP := Aside0.mk hP
  have hgne : ¬ a.g = w.heap.size + 1 + 1 := by have := hgw.out; omega
  have hgne2 : ¬ w.heap.size + 1 + 1 = a.g := by omega
  have hzx : ¬ w.heap.size = w.heap.size + 1 + 1 := by omega
  have hzx2 : ¬ w.heap.size + 1 + 1 = w.heap.size := by omega
  clear hR0 hR1' hV hs3 hq hp hpb
  have e0 : (d.f0 == 0) = false := beq_eq_false_iff_ne.mpr (by omega)
  have e1 : (d.f0 == 1) = false := beq_eq_false_iff_ne.mpr (by omega)
  have e2 : (d.f0 == 2) = false := beq_eq_false_iff_ne.mpr (by omega)
  have e3 : (d.f0 == 3) = true := beq_iff_eq.mpr hk
  clear hk
  go_enter Try.func21, Try.ntmps21
  go_upto_region 1 with (fail)
  rw [← hWW.out]
  go_upto_region 20 with (go_at_call 36; refine hTh.out.mono ?_; rintro e w3 ⟨rfl, hb3⟩; replace hb3 := Aside0.mk hb3)
  clear x0 x1 x2 x3 y0 y1 y2 y3 y4 y5
  have y1 : w3.cell? ⟨w.heap.size + 1, 1, none⟩ = some (.int .i64 d.f1) := (blk_cell (blk_below hy1.out hb3.out) 1).trans rfl
  have y2 : w3.cell? ⟨w.heap.size + 1, 2, none⟩ = some (.int .i64 d.f2) := (blk_cell (blk_below hy1.out hb3.out) 2).trans rfl
  have y3 : w3.cell? ⟨w.heap.size + 1, 3, none⟩ = some (.int .i64 d.f3) := (blk_cell (blk_below hy1.out hb3.out) 3).trans rfl
  have hP3 := Aside0.mk (hP.out w3 (hR1.out.below hb3.out))
  go_upto_region 21 with (go_at_call 11; refine hP3.out.mono ?_; rintro e w4 ⟨Ab, cb, rfl, hrb, hs4, hf4⟩; replace hrb := Aside0.mk hrb; replace hs4 := Aside0.mk hs4; replace hf4 := Aside0.mk hf4)
  have hng : ∀ k, w.heap.size ≤ k → ¬ (k = a.g) := fun k hk e => hRn.out k hk (.inl e)
  have hx4 := Aside0.mk (hf4.out.blk (blk_below hx1.out hb3.out) (hng _ (by omega)))
  have hy4 := Aside0.mk (hf4.out.blk (blk_below hy1.out hb3.out) (hng _ (by omega)))
  have hz4 := Aside0.mk (hf4.out.blk (blk_below hz1.out hb3.out) (hng _ (by omega)))
  have hCb := Aside0.mk (Kd.R_reads' hrb.out).2
  have hBn := Aside0.mk (fun n => gunnyref01_Bytes.calls Ab cb [] none 0 [] true (w4.drewN n) (Kd.C_below hCb.out.2 (pw_below_drewN (Below.refl _ w4) n)) hCb.out.1 (Kd.C_nil _ _) (Nat.le_refl _) (bytes_self []))
  clear y1 y2 y3 hng
  have x0 : w4.cell? ⟨w.heap.size, 0, none⟩ = some (.slice A0 own.length c0) := (blk_cell hx4.out 0).trans rfl
  have x1 : w4.cell? ⟨w.heap.size, 1, none⟩ = some (.slice A1 wh.length c1) := (blk_cell hx4.out 1).trans rfl
  have x2 : w4.cell? ⟨w.heap.size, 2, none⟩ = some (.int .i64 now) := (blk_cell hx4.out 2).trans rfl
  have x3 : w4.cell? ⟨w.heap.size, 3, none⟩ = some (.slice A3 L.length c3) := (blk_cell hx4.out 3).trans rfl
  go_region_held3 (fun w' => w'.cell? ⟨w.heap.size, 0, none⟩ = some (.slice A0 own.length c0) ∧ w'.cell? ⟨w.heap.size, 1, none⟩ = some (.slice A1 wh.length c1) ∧ w'.cell? ⟨w.heap.size, 2, none⟩ = some (.int .i64 now) ∧ w'.cell? ⟨w.heap.size, 3, none⟩ = some (.slice A3 L.length c3))
    (first | go_keep | (go_split_ands; refine ⟨?_, ?_, ?_, ?_⟩; (exact p0); (exact p1); (exact p2); (exact p3)))
    (first | (go_at_call 14; refine (hBn.out _).mono ?_; rintro e w5 ⟨rfl, hd5⟩; replace hd5 := hd5.below; have hx5 := blk_below (blkd hx4.out) hd5; have hz5 := blk_below (blkd hz4.out) hd5; have p0 : w5.cell? ⟨w.heap.size, 0, none⟩ = some (.slice A0 own.length c0) := (blk_cell hx5 0).trans rfl; have p1 : w5.cell? ⟨w.heap.size, 1, none⟩ = some (.slice A1 wh.length c1) := (blk_cell hx5 1).trans rfl; have p2 : w5.cell? ⟨w.heap.size, 2, none⟩ = some (.int .i64 now) := (blk_cell hx5 2).trans rfl; have p3 : w5.cell? ⟨w.heap.size, 3, none⟩ = some (.slice A3 L.length c3) := (blk_cell hx5 3).trans rfl; have z0 : w5.cell? ⟨w.heap.size + 1 + 1, 0, none⟩ = some (.slice none 0 0) := (blk_cell hz5 0).trans rfl; have z1 : w5.cell? ⟨w.heap.size + 1 + 1, 1, none⟩ = some (.slice none 0 0) := (blk_cell hz5 1).trans rfl; have z2 : w5.cell? ⟨w.heap.size + 1 + 1, 2, none⟩ = some (.int .i64 0) := (blk_cell hz5 2).trans rfl; have z3 : w5.cell? ⟨w.heap.size + 1 + 1, 3, none⟩ = some (.slice none 0 0) := (blk_cell hz5 3).trans rfl; have zf := fun j => blk_frozen hz5 j; have HZ := Aside0.mk (st4_blk hz5 (.slice A0 own.length c0) (.slice A1 wh.length c1) (.int .i64 now) (.slice A3 L.length c3)); have hs5 := Aside0.mk ((hs4.out.below (pw_below_drewN (Below.refl _ w4) _)).below hd5); have hf5 := Aside0.mk ((hf4.out.drewN _).then_ (Far.of_below hd5)); clear hd5 hx5 hz5))
  go_wp2
  refine bodyPost_ret (results_row2 rfl _ _ (w.heap.size + 1 + 1) 57 _ (0, 0) _ rfl HZ.out.1 Try.underlying57 (by kernel_rfl)) rfl ?_
  exact Did.of (ST.done (Far.of_below (below_step hb1.out hb3.out)) hs5.out (hX.out.below hb3.out) (below_step h1.out.bel hb3.out) hf5.out (fun k e => .inl e) (fun k h => .inl h) hge.out (h.out.pi.more (by have := hc.out; have := hi.out; omega)) (by have := hnl.out; omega) (by have := hnl.out; omega) hc.out.1 (by have := hi.out; omega) HZ.out.2 (by omega) (by omega) (by have := blk_lt hz1.out; have := hb3.out.size; omega) hgt.out (hRn.out _ (by omega))) rfl ⟨rfl, rfl⟩

set_option maxHeartbeats 16000000 in
set_option maxRecDepth 100000 in
theorem step_word_yes {w0 w : World} {a : RA} {own F : List Int} {t : Int} {B : List Int} {q : Int} {wh : List Int} {now : Int} {L : List S83} {A0 A1 A3 : Option Addr} {c0 c1 c3 m i : Nat} (h : ST w0 w a own F t B q wh now L (.slice A0 own.length c0) (.slice A1 wh.length c1) (.slice A3 L.length c3) m i) (hi : i < 60)
    (d : S26) (A5 : Option Addr) (c5 : Nat) (hD : DeedWf d) (hDC : Kd.C (Kd.int .u8) w0 A5 d.f5.length d.f5) (hDc : d.f5.length ≤ c5) (hk : d.f0 ≠ 0 ∧ d.f0 ≠ 1 ∧ d.f0 ≠ 2 ∧ d.f0 ≠ 3 ∧ d.f0 ≠ 4) (hp : pw own d.f1 d.f2) :
    Calls Try.prog 21 #[.pointer (some ⟨a.g, 0, none⟩), .agg #[.slice A0 own.length c0, .slice A1 wh.length c1, .int .i64 now, .slice A3 L.length c3], .agg #[.int .i64 d.f0, .int .i64 d.f1, .int .i64 d.f2, .int .i64 d.f3, .int .u64 d.f4, .slice A5 d.f5.length c5]] w fun e w' => Did w0 w a (.slice A0 own.length c0) (.slice A1 wh.length c1) q m (i + 1) e w' := by
  obtain ⟨W1, hW1⟩ : ∃ W1, W1 = ((w.alloc (C57 (.slice A0 own.length c0) (.slice A1 wh.length c1) now (.slice A3 L.length c3))).alloc (C26 d.f0 d.f1 d.f2 d.f3 d.f4 A5 d.f5.length c5)).alloc (C57 (.slice none 0 0) (.slice none 0 0) 0 (.slice none 0 0)) := ⟨_, rfl⟩
  have hb1 := below_alloc (below_alloc (below_alloc (Below.refl w.heap.size w) (C57 (.slice A0 own.length c0) (.slice A1 wh.length c1) now (.slice A3 L.length c3))) (C26 d.f0 d.f1 d.f2 d.f3 d.f4 A5 d.f5.length c5)) (C57 (.slice none 0 0) (.slice none 0 0) 0 (.slice none 0 0))
  have hx1 := blk_alloc (blk_alloc (blk_new w (C57 (.slice A0 own.length c0) (.slice A1 wh.length c1) now (.slice A3 L.length c3))) (C26 d.f0 d.f1 d.f2 d.f3 d.f4 A5 d.f5.length c5)) (C57 (.slice none 0 0) (.slice none 0 0) 0 (.slice none 0 0))
  have hy1 := blk_alloc (blk_new (w.alloc (C57 (.slice A0 own.length c0) (.slice A1 wh.length c1) now (.slice A3 L.length c3))) (C26 d.f0 d.f1 d.f2 d.f3 d.f4 A5 d.f5.length c5)) (C57 (.slice none 0 0) (.slice none 0 0) 0 (.slice none 0 0))
  have hz1 := blk_new ((w.alloc (C57 (.slice A0 own.length c0) (.slice A1 wh.length c1) now (.slice A3 L.length c3))).alloc (C26 d.f0 d.f1 d.f2 d.f3 d.f4 A5 d.f5.length c5)) (C57 (.slice none 0 0) (.slice none 0 0) 0 (.slice none 0 0))
  rw [World.size_alloc] at hy1
  rw [World.size_alloc, World.size_alloc] at hz1
  rw [← hW1] at hb1 hx1 hy1 hz1
  have hgw := (h.rs.own_lt a.g (.inl rfl)).2
  have h1 := h.below hb1
  obtain ⟨bx, hbx⟩ : ∃ bx, bx = w.heap.size := ⟨_, rfl⟩
  obtain ⟨W, hW⟩ : ∃ W, W = W1 := ⟨_, rfl⟩
  have x0 : W.cell? ⟨w.heap.size, 0, none⟩ = some (.slice A0 own.length c0) := by rw [hW]; exact (blk_cell hx1 0).trans rfl
  have x1 : W.cell? ⟨w.heap.size, 1, none⟩ = some (.slice A1 wh.length c1) := by rw [hW]; exact (blk_cell hx1 1).trans rfl
  have x2 : W.cell? ⟨w.heap.size, 2, none⟩ = some (.int .i64 now) := by rw [hW]; exact (blk_cell hx1 2).trans rfl
  have x3 : W.cell? ⟨w.heap.size, 3, none⟩ = some (.slice A3 L.length c3) := by rw [hW]; exact (blk_cell hx1 3).trans rfl
  have y0 : W.cell? ⟨w.heap.size + 1, 0, none⟩ = some (.int .i64 d.f0) := by rw [hW]; exact (blk_cell hy1 0).trans rfl
  have y1 : W.cell? ⟨w.heap.size + 1, 1, none⟩ = some (.int .i64 d.f1) := by rw [hW]; exact (blk_cell hy1 1).trans rfl
  have y2 : W.cell? ⟨w.heap.size + 1, 2, none⟩ = some (.int .i64 d.f2) := by rw [hW]; exact (blk_cell hy1 2).trans rfl
  have y3 : W.cell? ⟨w.heap.size + 1, 3, none⟩ = some (.int .i64 d.f3) := by rw [hW]; exact (blk_cell hy1 3).trans rfl
  have y4 : W.cell? ⟨w.heap.size + 1, 4, none⟩ = some (.int .u64 d.f4) := by rw [hW]; exact (blk_cell hy1 4).trans rfl
  have y5 : W.cell? ⟨w.heap.size + 1, 5, none⟩ = some (.slice A5 d.f5.length c5) := by rw [hW]; exact (blk_cell hy1 5).trans rfl
  have hWW := Aside0.mk (hW.trans hW1)
  rw [← hW] at hb1 hx1 hy1 hz1 h1
  clear hW1 hW
  clear W1
  have hX := Aside0.mk ((h.xf.at (Q' := Qb a w.heap.size) (Nat.le_refl _) (fun k hk => hk.imp id (fun e => e.1))).below hb1)
  have hR1 := Aside0.mk h1.rs
  have hQ1 := Aside0.mk (show ∀ k, Qb a w.heap.size k → k < W.heap.size from fun k hk => by
    rcases hk with e | e
    · exact (h1.rs.own_lt k e).2
    · have := blk_lt hz1; omega)
  have hRn := Aside0.mk (show ∀ k, w.heap.size ≤ k → ¬ Rown a k from fun k hk hr => by have := (h.rs.own_lt k hr).2; omega)
  have hgt := Aside0.mk h.bel.size
  have hge := Aside0.mk (fun k hk => (h.rs.own_lt k hk).1)
  have hnl := Aside0.mk (And.intro h.now h.len)
  replace hb1 := Aside0.mk hb1
  replace hx1 := Aside0.mk hx1
  replace hy1 := Aside0.mk hy1
  replace hz1 := Aside0.mk hz1
  replace h1 := Aside0.mk h1
  replace hgw := Aside0.mk hgw
  have hc := Aside0.mk (And.intro h.m96 h.i60)
  have hol := Aside0.mk h.own_len
  replace hDC := Aside0.mk hDC
  replace hDc := Aside0.mk hDc
  replace hD := Aside0.mk hD
  replace hi := Aside0.mk hi
  replace h := Aside0.mk h
  have hR0 := Kd.R_reads' hX.out.r0
  have hR1' := Kd.R_reads' hX.out.r1
  have hV := Kd.V_reads' hX.out.r3
  have hp1 := hp.2
  have h0 := hp.1.1
  have h5 := hp.1.2
  have hpw := hp
  have hTh := gunnyref06_There.calls A0 c0 own A1 c1 wh now A3 c3 L d.f1 0 1 _ W hR0.2.2 hR0.2.1 hR1'.2.2 hR1'.2.1 hV.2.2 hV.2.1 (There_some own wh now L (by have := hol.out.1; have := hc.out.1; omega) d.f1 0 1 (by omega))
  rw [decide_eq_true hp1] at hTh
  replace hTh := Aside0.mk hTh
  have g1 : decide (d.f2 ≥ 0) = true := decide_eq_true h0
  have g1' : decide (0 ≤ d.f2) = true := decide_eq_true h0
  have g2 : decide (d.f2 < 512) = true := decide_eq_true h5
  have hP := fun W (hW : RS W w0.heap.size a ⟨own, F, t, B, q⟩) => word_q w0.heap.size a own F t B q d.f1 d.f2 W hW h.out.gd
  have hq : qn q (pw own d.f1 d.f2) = wrap64 (q + 1) := if_pos hpw
  simp only [decide_eq_true hpw, hq, if_pos hpw] at hP
  obtain ⟨pb, hpb⟩ : ∃ pb, pb = part own B d.f1 (8 * d.f2) 8 := ⟨_, rfl⟩
  have hpk := pw_pk hpw
  have hRr := fun W2 (hb2 : Below W.heap.size W W2) => gunnyref06_Read.calls 500000 A0 c0 own A1 c1 wh now A3 c3 L d.f1 (8 * d.f2) 8 (part own B d.f1 (8 * d.f2) 8) W2 (Kd.C_below hR0.2.2 hb2) hR0.2.1 (Kd.C_below hR1'.2.2 hb2) hR1'.2.1 (Kd.C_below hV.2.2 hb2) hV.2.1 (Read_part h.out.pi (by have := hnl.out.2; have := hc.out.2; omega) hpk (fun x y z e => h.out.pi.reads x y z e))
  have hp8 : pb.length = 8 := by
    rw [hpb]
    obtain ⟨x, y, z, e1, e2, e3, _, _, _, k4⟩ := pok_nat (s := ⟨own, F, t, B, q⟩) (h.out.gd.to t q) hpk
    have k4' : 4096 * x + y + z ≤ B.length := k4
    unfold part
    rw [if_pos hpk, e1, e2, e3, Int.toNat_natCast, Int.toNat_natCast, Int.toNat_natCast, List.length_take, List.length_drop]
    omega
  have hpB : isBytes pb := by rw [hpb]; unfold part; rw [if_pos hpk]; exact (h.out.pi.by_.drop _).take _
  have hgv : gunnyref01_Get.f 100 pb 0 8 = some ((val pb : Nat) : Int) := by
    have := rget 100 pb hpB (by omega) 0 8 (by omega) (by omega) (by omega) (by omega)
    rw [List.drop_zero, List.take_of_length_le (by omega)] at this
    exact this
  rw [← hpb] at hRr
  simp only [← hpb] at hP
  have hw8 : wrap64 (8 * d.f2) = 8 * d.f2 := by unfold wrap64; omega
  replace hRr := Aside0.mk hRr
  replace hgv := Aside0.mk hgv
  replace hw8 := Aside0.mk hw8
  clear hpb hpk hp8 hpB hp1
  replace hP := Aside0.mk hP
  clear hR0 hR1' hV hq hp hpw h0 h5
  have e0 : (d.f0 == 0) = false := beq_eq_false_iff_ne.mpr (by omega)
  have e1 : (d.f0 == 1) = false := beq_eq_false_iff_ne.mpr (by omega)
  have e2 : (d.f0 == 2) = false := beq_eq_false_iff_ne.mpr (by omega)
  have e3 : (d.f0 == 3) = false := beq_eq_false_iff_ne.mpr (by omega)
  have e4 : (d.f0 == 4) = false := beq_eq_false_iff_ne.mpr (by omega)
  clear hk
  go_enter Try.func21, Try.ntmps21
  go_upto_region 1 with (fail)
  rw [← hWW.out]
  go_upto_region 23 with (go_at_call 36; refine hTh.out.mono ?_; rintro e w2 ⟨rfl, hb2⟩; replace hb2 := Aside0.mk hb2)
  clear x0 x1 x2 x3 y0 y1 y2 y3 y4 y5
  have y0 : w2.cell? ⟨w.heap.size + 1, 0, none⟩ = some (.int .i64 d.f0) := (blk_cell (blk_below hy1.out hb2.out) 0).trans rfl
  have y1 : w2.cell? ⟨w.heap.size + 1, 1, none⟩ = some (.int .i64 d.f1) := (blk_cell (blk_below hy1.out hb2.out) 1).trans rfl
  have y2 : w2.cell? ⟨w.heap.size + 1, 2, none⟩ = some (.int .i64 d.f2) := (blk_cell (blk_below hy1.out hb2.out) 2).trans rfl
  have x0 : w2.cell? ⟨w.heap.size, 0, none⟩ = some (.slice A0 own.length c0) := (blk_cell (blk_below hx1.out hb2.out) 0).trans rfl
  have x1 : w2.cell? ⟨w.heap.size, 1, none⟩ = some (.slice A1 wh.length c1) := (blk_cell (blk_below hx1.out hb2.out) 1).trans rfl
  have x2 : w2.cell? ⟨w.heap.size, 2, none⟩ = some (.int .i64 now) := (blk_cell (blk_below hx1.out hb2.out) 2).trans rfl
  have x3 : w2.cell? ⟨w.heap.size, 3, none⟩ = some (.slice A3 L.length c3) := (blk_cell (blk_below hx1.out hb2.out) 3).trans rfl
  have hw8' := hw8.out
  go_upto_region 30 with (first | (go_at_call 23; refine (hRr.out w2 hb2.out).mono ?_; rintro e w3 ⟨v, rfl, hrv, hb3⟩; obtain ⟨Aw, cw, rfl⟩ := Kd.R_slice hrv; have hG := gunnyref01_Get.calls 100 Aw cw pb 0 8 ((val pb : Nat) : Int) w3 (Kd.R_reads' hrv).2.2 (Kd.R_reads' hrv).2.1 hgv.out; replace hG := Aside0.mk hG; have hb3 := Aside0.mk (below_step hb2.out hb3); clear hrv) | (go_at_call 39; refine hG.out.mono ?_; rintro e w3b ⟨rfl, hb3b⟩; first | (have hb3 := Aside0.mk (below_step hb3.out hb3b)) | (have hb3 := Aside0.mk (below_step hb3.out hb3b.below)); clear hb3b))
  clear x0 x1 x2 x3 y0 y1 y2
  have y1 : w3b.cell? ⟨w.heap.size + 1, 1, none⟩ = some (.int .i64 d.f1) := (blk_cell (blk_below hy1.out hb3.out) 1).trans rfl
  have y2 : w3b.cell? ⟨w.heap.size + 1, 2, none⟩ = some (.int .i64 d.f2) := (blk_cell (blk_below hy1.out hb3.out) 2).trans rfl
  have hP3 := Aside0.mk (hP.out w3b (hR1.out.below hb3.out))
  go_upto_region 31 with (go_at_call 15; refine hP3.out.mono ?_; rintro e w4 ⟨rfl, hs4, hf4⟩; replace hs4 := Aside0.mk hs4; replace hf4 := Aside0.mk hf4)
  have hng : ∀ k, w.heap.size ≤ k → ¬ (k = a.g) := fun k hk e => hRn.out k hk (.inl e)
  have hx4 := hf4.out.blk (blk_below hx1.out hb3.out) (hng _ (by omega))
  have hz4 := hf4.out.blk (blk_below hz1.out hb3.out) (hng _ (by omega))
  clear y1 y2 hng
  have x0 : w4.cell? ⟨w.heap.size, 0, none⟩ = some (.slice A0 own.length c0) := (blk_cell hx4 0).trans rfl
  have x1 : w4.cell? ⟨w.heap.size, 1, none⟩ = some (.slice A1 wh.length c1) := (blk_cell hx4 1).trans rfl
  have x2 : w4.cell? ⟨w.heap.size, 2, none⟩ = some (.int .i64 now) := (blk_cell hx4 2).trans rfl
  have x3 : w4.cell? ⟨w.heap.size, 3, none⟩ = some (.slice A3 L.length c3) := (blk_cell hx4 3).trans rfl
  have z0 : w4.cell? ⟨w.heap.size + 1 + 1, 0, none⟩ = some (.slice none 0 0) := (blk_cell hz4 0).trans rfl
  have z1 : w4.cell? ⟨w.heap.size + 1 + 1, 1, none⟩ = some (.slice none 0 0) := (blk_cell hz4 1).trans rfl
  have z2 : w4.cell? ⟨w.heap.size + 1 + 1, 2, none⟩ = some (.int .i64 0) := (blk_cell hz4 2).trans rfl
  have z3 : w4.cell? ⟨w.heap.size + 1 + 1, 3, none⟩ = some (.slice none 0 0) := (blk_cell hz4 3).trans rfl
  have zf := fun j => blk_frozen hz4 j
  have HZ := Aside0.mk (st4_blk hz4 (.slice A0 own.length c0) (.slice A1 wh.length c1) (.int .i64 now) (.slice A3 L.length c3))
  clear hx4 hz4
  go_wp2
  refine bodyPost_ret (results_row2 rfl _ _ (w.heap.size + 1 + 1) 57 _ (0, 0) _ rfl HZ.out.1 Try.underlying57 (by kernel_rfl)) rfl ?_
  exact Did.of (ST.done (Far.of_below (below_step hb1.out hb3.out)) hs4.out (hX.out.below hb3.out) (below_step h1.out.bel hb3.out) hf4.out (fun k e => .inl e) (fun k h => .inl h) hge.out (h.out.pi.more (by have := hc.out; have := hi.out; omega)) (by have := hnl.out; omega) (by have := hnl.out; omega) hc.out.1 (by have := hi.out; omega) HZ.out.2 (by omega) (by omega) (by have := blk_lt hz1.out; have := hb3.out.size; omega) hgt.out (hRn.out _ (by omega))) rfl ⟨rfl, rfl⟩

set_option maxHeartbeats 16000000 in
set_option maxRecDepth 100000 in
theorem step_word_low {w0 w : World} {a : RA} {own F : List Int} {t : Int} {B : List Int} {q : Int} {wh : List Int} {now : Int} {L : List S83} {A0 A1 A3 : Option Addr} {c0 c1 c3 m i : Nat} (h : ST w0 w a own F t B q wh now L (.slice A0 own.length c0) (.slice A1 wh.length c1) (.slice A3 L.length c3) m i) (hi : i < 60)
    (d : S26) (A5 : Option Addr) (c5 : Nat) (hD : DeedWf d) (hDC : Kd.C (Kd.int .u8) w0 A5 d.f5.length d.f5) (hDc : d.f5.length ≤ c5) (hk : d.f0 ≠ 0 ∧ d.f0 ≠ 1 ∧ d.f0 ≠ 2 ∧ d.f0 ≠ 3 ∧ d.f0 ≠ 4) (hp : d.f2 < 0) :
    Calls Try.prog 21 #[.pointer (some ⟨a.g, 0, none⟩), .agg #[.slice A0 own.length c0, .slice A1 wh.length c1, .int .i64 now, .slice A3 L.length c3], .agg #[.int .i64 d.f0, .int .i64 d.f1, .int .i64 d.f2, .int .i64 d.f3, .int .u64 d.f4, .slice A5 d.f5.length c5]] w fun e w' => Did w0 w a (.slice A0 own.length c0) (.slice A1 wh.length c1) q m (i + 1) e w' := by
  obtain ⟨W1, hW1⟩ : ∃ W1, W1 = ((w.alloc (C57 (.slice A0 own.length c0) (.slice A1 wh.length c1) now (.slice A3 L.length c3))).alloc (C26 d.f0 d.f1 d.f2 d.f3 d.f4 A5 d.f5.length c5)).alloc (C57 (.slice none 0 0) (.slice none 0 0) 0 (.slice none 0 0)) := ⟨_, rfl⟩
  have hb1 := below_alloc (below_alloc (below_alloc (Below.refl w.heap.size w) (C57 (.slice A0 own.length c0) (.slice A1 wh.length c1) now (.slice A3 L.length c3))) (C26 d.f0 d.f1 d.f2 d.f3 d.f4 A5 d.f5.length c5)) (C57 (.slice none 0 0) (.slice none 0 0) 0 (.slice none 0 0))
  have hx1 := blk_alloc (blk_alloc (blk_new w (C57 (.slice A0 own.length c0) (.slice A1 wh.length c1) now (.slice A3 L.length c3))) (C26 d.f0 d.f1 d.f2 d.f3 d.f4 A5 d.f5.length c5)) (C57 (.slice none 0 0) (.slice none 0 0) 0 (.slice none 0 0))
  have hy1 := blk_alloc (blk_new (w.alloc (C57 (.slice A0 own.length c0) (.slice A1 wh.length c1) now (.slice A3 L.length c3))) (C26 d.f0 d.f1 d.f2 d.f3 d.f4 A5 d.f5.length c5)) (C57 (.slice none 0 0) (.slice none 0 0) 0 (.slice none 0 0))
  have hz1 := blk_new ((w.alloc (C57 (.slice A0 own.length c0) (.slice A1 wh.length c1) now (.slice A3 L.length c3))).alloc (C26 d.f0 d.f1 d.f2 d.f3 d.f4 A5 d.f5.length c5)) (C57 (.slice none 0 0) (.slice none 0 0) 0 (.slice none 0 0))
  rw [World.size_alloc] at hy1
  rw [World.size_alloc, World.size_alloc] at hz1
  rw [← hW1] at hb1 hx1 hy1 hz1
  have hgw := (h.rs.own_lt a.g (.inl rfl)).2
  have h1 := h.below hb1
  obtain ⟨bx, hbx⟩ : ∃ bx, bx = w.heap.size := ⟨_, rfl⟩
  obtain ⟨W, hW⟩ : ∃ W, W = W1 := ⟨_, rfl⟩
  have x0 : W.cell? ⟨w.heap.size, 0, none⟩ = some (.slice A0 own.length c0) := by rw [hW]; exact (blk_cell hx1 0).trans rfl
  have x1 : W.cell? ⟨w.heap.size, 1, none⟩ = some (.slice A1 wh.length c1) := by rw [hW]; exact (blk_cell hx1 1).trans rfl
  have x2 : W.cell? ⟨w.heap.size, 2, none⟩ = some (.int .i64 now) := by rw [hW]; exact (blk_cell hx1 2).trans rfl
  have x3 : W.cell? ⟨w.heap.size, 3, none⟩ = some (.slice A3 L.length c3) := by rw [hW]; exact (blk_cell hx1 3).trans rfl
  have y0 : W.cell? ⟨w.heap.size + 1, 0, none⟩ = some (.int .i64 d.f0) := by rw [hW]; exact (blk_cell hy1 0).trans rfl
  have y1 : W.cell? ⟨w.heap.size + 1, 1, none⟩ = some (.int .i64 d.f1) := by rw [hW]; exact (blk_cell hy1 1).trans rfl
  have y2 : W.cell? ⟨w.heap.size + 1, 2, none⟩ = some (.int .i64 d.f2) := by rw [hW]; exact (blk_cell hy1 2).trans rfl
  have y3 : W.cell? ⟨w.heap.size + 1, 3, none⟩ = some (.int .i64 d.f3) := by rw [hW]; exact (blk_cell hy1 3).trans rfl
  have y4 : W.cell? ⟨w.heap.size + 1, 4, none⟩ = some (.int .u64 d.f4) := by rw [hW]; exact (blk_cell hy1 4).trans rfl
  have y5 : W.cell? ⟨w.heap.size + 1, 5, none⟩ = some (.slice A5 d.f5.length c5) := by rw [hW]; exact (blk_cell hy1 5).trans rfl
  have hWW := Aside0.mk (hW.trans hW1)
  rw [← hW] at hb1 hx1 hy1 hz1 h1
  clear hW1 hW
  clear W1
  have hX := Aside0.mk ((h.xf.at (Q' := Qb a w.heap.size) (Nat.le_refl _) (fun k hk => hk.imp id (fun e => e.1))).below hb1)
  have hR1 := Aside0.mk h1.rs
  have hQ1 := Aside0.mk (show ∀ k, Qb a w.heap.size k → k < W.heap.size from fun k hk => by
    rcases hk with e | e
    · exact (h1.rs.own_lt k e).2
    · have := blk_lt hz1; omega)
  have hRn := Aside0.mk (show ∀ k, w.heap.size ≤ k → ¬ Rown a k from fun k hk hr => by have := (h.rs.own_lt k hr).2; omega)
  have hgt := Aside0.mk h.bel.size
  have hge := Aside0.mk (fun k hk => (h.rs.own_lt k hk).1)
  have hnl := Aside0.mk (And.intro h.now h.len)
  replace hb1 := Aside0.mk hb1
  replace hx1 := Aside0.mk hx1
  replace hy1 := Aside0.mk hy1
  replace hz1 := Aside0.mk hz1
  replace h1 := Aside0.mk h1
  replace hgw := Aside0.mk hgw
  have hc := Aside0.mk (And.intro h.m96 h.i60)
  have hol := Aside0.mk h.own_len
  replace hDC := Aside0.mk hDC
  replace hDc := Aside0.mk hDc
  replace hD := Aside0.mk hD
  replace hi := Aside0.mk hi
  replace h := Aside0.mk h
  have hR0 := Kd.R_reads' hX.out.r0
  have hR1' := Kd.R_reads' hX.out.r1
  have hV := Kd.V_reads' hX.out.r3
  have hpw : ¬ pw own d.f1 d.f2 := fun e => by have := e.1; omega
  have g1 : decide (d.f2 ≥ 0) = false := decide_eq_false (by omega)
  have g1' : decide (0 ≤ d.f2) = false := decide_eq_false (by omega)
  have hP := fun W (hW : RS W w0.heap.size a ⟨own, F, t, B, q⟩) => word_q w0.heap.size a own F t B q d.f1 d.f2 W hW h.out.gd
  have hq : qn q (pw own d.f1 d.f2) = q := if_neg hpw
  simp only [decide_eq_false hpw, hq, if_neg hpw] at hP
  replace hP := Aside0.mk hP
  clear hR0 hR1' hV hq hp hpw
  have e0 : (d.f0 == 0) = false := beq_eq_false_iff_ne.mpr (by omega)
  have e1 : (d.f0 == 1) = false := beq_eq_false_iff_ne.mpr (by omega)
  have e2 : (d.f0 == 2) = false := beq_eq_false_iff_ne.mpr (by omega)
  have e3 : (d.f0 == 3) = false := beq_eq_false_iff_ne.mpr (by omega)
  have e4 : (d.f0 == 4) = false := beq_eq_false_iff_ne.mpr (by omega)
  clear hk
  go_enter Try.func21, Try.ntmps21
  go_upto_region 1 with (fail)
  rw [← hWW.out]
  go_upto_region 23 with (fail)
  have hb2 := Aside0.mk (Below.refl W.heap.size W)
  clear x0 x1 x2 x3 y0 y1 y2 y3 y4 y5
  have y0 : W.cell? ⟨w.heap.size + 1, 0, none⟩ = some (.int .i64 d.f0) := (blk_cell (blk_below hy1.out hb2.out) 0).trans rfl
  have y1 : W.cell? ⟨w.heap.size + 1, 1, none⟩ = some (.int .i64 d.f1) := (blk_cell (blk_below hy1.out hb2.out) 1).trans rfl
  have y2 : W.cell? ⟨w.heap.size + 1, 2, none⟩ = some (.int .i64 d.f2) := (blk_cell (blk_below hy1.out hb2.out) 2).trans rfl
  go_upto_region 30 with (fail)
  clear y0 y1 y2
  have hb3 := hb2
  have y1 : W.cell? ⟨w.heap.size + 1, 1, none⟩ = some (.int .i64 d.f1) := (blk_cell (blk_below hy1.out hb3.out) 1).trans rfl
  have y2 : W.cell? ⟨w.heap.size + 1, 2, none⟩ = some (.int .i64 d.f2) := (blk_cell (blk_below hy1.out hb3.out) 2).trans rfl
  have hP3 := Aside0.mk (hP.out W (hR1.out.below hb3.out))
  go_upto_region 31 with (go_at_call 15; refine hP3.out.mono ?_; rintro e w4 ⟨rfl, hs4, hf4⟩; replace hs4 := Aside0.mk hs4; replace hf4 := Aside0.mk hf4)
  have hng : ∀ k, w.heap.size ≤ k → ¬ (k = a.g) := fun k hk e => hRn.out k hk (.inl e)
  have hx4 := hf4.out.blk (blk_below hx1.out hb3.out) (hng _ (by omega))
  have hz4 := hf4.out.blk (blk_below hz1.out hb3.out) (hng _ (by omega))
  clear y1 y2 hng
  have x0 : w4.cell? ⟨w.heap.size, 0, none⟩ = some (.slice A0 own.length c0) := (blk_cell hx4 0).trans rfl
  have x1 : w4.cell? ⟨w.heap.size, 1, none⟩ = some (.slice A1 wh.length c1) := (blk_cell hx4 1).trans rfl
  have x2 : w4.cell? ⟨w.heap.size, 2, none⟩ = some (.int .i64 now) := (blk_cell hx4 2).trans rfl
  have x3 : w4.cell? ⟨w.heap.size, 3, none⟩ = some (.slice A3 L.length c3) := (blk_cell hx4 3).trans rfl
  have z0 : w4.cell? ⟨w.heap.size + 1 + 1, 0, none⟩ = some (.slice none 0 0) := (blk_cell hz4 0).trans rfl
  have z1 : w4.cell? ⟨w.heap.size + 1 + 1, 1, none⟩ = some (.slice none 0 0) := (blk_cell hz4 1).trans rfl
  have z2 : w4.cell? ⟨w.heap.size + 1 + 1, 2, none⟩ = some (.int .i64 0) := (blk_cell hz4 2).trans rfl
  have z3 : w4.cell? ⟨w.heap.size + 1 + 1, 3, none⟩ = some (.slice none 0 0) := (blk_cell hz4 3).trans rfl
  have zf := fun j => blk_frozen hz4 j
  have HZ := Aside0.mk (st4_blk hz4 (.slice A0 own.length c0) (.slice A1 wh.length c1) (.int .i64 now) (.slice A3 L.length c3))
  clear hx4 hz4
  go_wp2
  refine bodyPost_ret (results_row2 rfl _ _ (w.heap.size + 1 + 1) 57 _ (0, 0) _ rfl HZ.out.1 Try.underlying57 (by kernel_rfl)) rfl ?_
  exact Did.of (ST.done (Far.of_below (below_step hb1.out hb3.out)) hs4.out (hX.out.below hb3.out) (below_step h1.out.bel hb3.out) hf4.out (fun k e => .inl e) (fun k h => .inl h) hge.out (h.out.pi.more (by have := hc.out; have := hi.out; omega)) (by have := hnl.out; omega) (by have := hnl.out; omega) hc.out.1 (by have := hi.out; omega) HZ.out.2 (by omega) (by omega) (by have := blk_lt hz1.out; have := hb3.out.size; omega) hgt.out (hRn.out _ (by omega))) rfl ⟨rfl, rfl⟩

set_option maxHeartbeats 16000000 in
set_option maxRecDepth 100000 in
theorem step_word_high {w0 w : World} {a : RA} {own F : List Int} {t : Int} {B : List Int} {q : Int} {wh : List Int} {now : Int} {L : List S83} {A0 A1 A3 : Option Addr} {c0 c1 c3 m i : Nat} (h : ST w0 w a own F t B q wh now L (.slice A0 own.length c0) (.slice A1 wh.length c1) (.slice A3 L.length c3) m i) (hi : i < 60)
    (d : S26) (A5 : Option Addr) (c5 : Nat) (hD : DeedWf d) (hDC : Kd.C (Kd.int .u8) w0 A5 d.f5.length d.f5) (hDc : d.f5.length ≤ c5) (hk : d.f0 ≠ 0 ∧ d.f0 ≠ 1 ∧ d.f0 ≠ 2 ∧ d.f0 ≠ 3 ∧ d.f0 ≠ 4) (hp : 512 ≤ d.f2) :
    Calls Try.prog 21 #[.pointer (some ⟨a.g, 0, none⟩), .agg #[.slice A0 own.length c0, .slice A1 wh.length c1, .int .i64 now, .slice A3 L.length c3], .agg #[.int .i64 d.f0, .int .i64 d.f1, .int .i64 d.f2, .int .i64 d.f3, .int .u64 d.f4, .slice A5 d.f5.length c5]] w fun e w' => Did w0 w a (.slice A0 own.length c0) (.slice A1 wh.length c1) q m (i + 1) e w' := by
  obtain ⟨W1, hW1⟩ : ∃ W1, W1 = ((w.alloc (C57 (.slice A0 own.length c0) (.slice A1 wh.length c1) now (.slice A3 L.length c3))).alloc (C26 d.f0 d.f1 d.f2 d.f3 d.f4 A5 d.f5.length c5)).alloc (C57 (.slice none 0 0) (.slice none 0 0) 0 (.slice none 0 0)) := ⟨_, rfl⟩
  have hb1 := below_alloc (below_alloc (below_alloc (Below.refl w.heap.size w) (C57 (.slice A0 own.length c0) (.slice A1 wh.length c1) now (.slice A3 L.length c3))) (C26 d.f0 d.f1 d.f2 d.f3 d.f4 A5 d.f5.length c5)) (C57 (.slice none 0 0) (.slice none 0 0) 0 (.slice none 0 0))
  have hx1 := blk_alloc (blk_alloc (blk_new w (C57 (.slice A0 own.length c0) (.slice A1 wh.length c1) now (.slice A3 L.length c3))) (C26 d.f0 d.f1 d.f2 d.f3 d.f4 A5 d.f5.length c5)) (C57 (.slice none 0 0) (.slice none 0 0) 0 (.slice none 0 0))
  have hy1 := blk_alloc (blk_new (w.alloc (C57 (.slice A0 own.length c0) (.slice A1 wh.length c1) now (.slice A3 L.length c3))) (C26 d.f0 d.f1 d.f2 d.f3 d.f4 A5 d.f5.length c5)) (C57 (.slice none 0 0) (.slice none 0 0) 0 (.slice none 0 0))
  have hz1 := blk_new ((w.alloc (C57 (.slice A0 own.length c0) (.slice A1 wh.length c1) now (.slice A3 L.length c3))).alloc (C26 d.f0 d.f1 d.f2 d.f3 d.f4 A5 d.f5.length c5)) (C57 (.slice none 0 0) (.slice none 0 0) 0 (.slice none 0 0))
  rw [World.size_alloc] at hy1
  rw [World.size_alloc, World.size_alloc] at hz1
  rw [← hW1] at hb1 hx1 hy1 hz1
  have hgw := (h.rs.own_lt a.g (.inl rfl)).2
  have h1 := h.below hb1
  obtain ⟨bx, hbx⟩ : ∃ bx, bx = w.heap.size := ⟨_, rfl⟩
  obtain ⟨W, hW⟩ : ∃ W, W = W1 := ⟨_, rfl⟩
  have x0 : W.cell? ⟨w.heap.size, 0, none⟩ = some (.slice A0 own.length c0) := by rw [hW]; exact (blk_cell hx1 0).trans rfl
  have x1 : W.cell? ⟨w.heap.size, 1, none⟩ = some (.slice A1 wh.length c1) := by rw [hW]; exact (blk_cell hx1 1).trans rfl
  have x2 : W.cell? ⟨w.heap.size, 2, none⟩ = some (.int .i64 now) := by rw [hW]; exact (blk_cell hx1 2).trans rfl
  have x3 : W.cell? ⟨w.heap.size, 3, none⟩ = some (.slice A3 L.length c3) := by rw [hW]; exact (blk_cell hx1 3).trans rfl
  have y0 : W.cell? ⟨w.heap.size + 1, 0, none⟩ = some (.int .i64 d.f0) := by rw [hW]; exact (blk_cell hy1 0).trans rfl
  have y1 : W.cell? ⟨w.heap.size + 1, 1, none⟩ = some (.int .i64 d.f1) := by rw [hW]; exact (blk_cell hy1 1).trans rfl
  have y2 : W.cell? ⟨w.heap.size + 1, 2, none⟩ = some (.int .i64 d.f2) := by rw [hW]; exact (blk_cell hy1 2).trans rfl
  have y3 : W.cell? ⟨w.heap.size + 1, 3, none⟩ = some (.int .i64 d.f3) := by rw [hW]; exact (blk_cell hy1 3).trans rfl
  have y4 : W.cell? ⟨w.heap.size + 1, 4, none⟩ = some (.int .u64 d.f4) := by rw [hW]; exact (blk_cell hy1 4).trans rfl
  have y5 : W.cell? ⟨w.heap.size + 1, 5, none⟩ = some (.slice A5 d.f5.length c5) := by rw [hW]; exact (blk_cell hy1 5).trans rfl
  have hWW := Aside0.mk (hW.trans hW1)
  rw [← hW] at hb1 hx1 hy1 hz1 h1
  clear hW1 hW
  clear W1
  have hX := Aside0.mk ((h.xf.at (Q' := Qb a w.heap.size) (Nat.le_refl _) (fun k hk => hk.imp id (fun e => e.1))).below hb1)
  have hR1 := Aside0.mk h1.rs
  have hQ1 := Aside0.mk (show ∀ k, Qb a w.heap.size k → k < W.heap.size from fun k hk => by
    rcases hk with e | e
    · exact (h1.rs.own_lt k e).2
    · have := blk_lt hz1; omega)
  have hRn := Aside0.mk (show ∀ k, w.heap.size ≤ k → ¬ Rown a k from fun k hk hr => by have := (h.rs.own_lt k hr).2; omega)
  have hgt := Aside0.mk h.bel.size
  have hge := Aside0.mk (fun k hk => (h.rs.own_lt k hk).1)
  have hnl := Aside0.mk (And.intro h.now h.len)
  replace hb1 := Aside0.mk hb1
  replace hx1 := Aside0.mk hx1
  replace hy1 := Aside0.mk hy1
  replace hz1 := Aside0.mk hz1
  replace h1 := Aside0.mk h1
  replace hgw := Aside0.mk hgw
  have hc := Aside0.mk (And.intro h.m96 h.i60)
  have hol := Aside0.mk h.own_len
  replace hDC := Aside0.mk hDC
  replace hDc := Aside0.mk hDc
  replace hD := Aside0.mk hD
  replace hi := Aside0.mk hi
  replace h := Aside0.mk h
  have hR0 := Kd.R_reads' hX.out.r0
  have hR1' := Kd.R_reads' hX.out.r1
  have hV := Kd.V_reads' hX.out.r3
  have hpw : ¬ pw own d.f1 d.f2 := fun e => by have := e.1; omega
  have g1 : decide (d.f2 ≥ 0) = true := decide_eq_true (by omega)
  have g1' : decide (0 ≤ d.f2) = true := decide_eq_true (by omega)
  have g2 : decide (d.f2 < 512) = false := decide_eq_false (by omega)
  have hP := fun W (hW : RS W w0.heap.size a ⟨own, F, t, B, q⟩) => word_q w0.heap.size a own F t B q d.f1 d.f2 W hW h.out.gd
  have hq : qn q (pw own d.f1 d.f2) = q := if_neg hpw
  simp only [decide_eq_false hpw, hq, if_neg hpw] at hP
  replace hP := Aside0.mk hP
  clear hR0 hR1' hV hq hp hpw
  have e0 : (d.f0 == 0) = false := beq_eq_false_iff_ne.mpr (by omega)
  have e1 : (d.f0 == 1) = false := beq_eq_false_iff_ne.mpr (by omega)
  have e2 : (d.f0 == 2) = false := beq_eq_false_iff_ne.mpr (by omega)
  have e3 : (d.f0 == 3) = false := beq_eq_false_iff_ne.mpr (by omega)
  have e4 : (d.f0 == 4) = false := beq_eq_false_iff_ne.mpr (by omega)
  clear hk
  go_enter Try.func21, Try.ntmps21
  go_upto_region 1 with (fail)
  rw [← hWW.out]
  go_upto_region 23 with (fail)
  have hb2 := Aside0.mk (Below.refl W.heap.size W)
  clear x0 x1 x2 x3 y0 y1 y2 y3 y4 y5
  have y0 : W.cell? ⟨w.heap.size + 1, 0, none⟩ = some (.int .i64 d.f0) := (blk_cell (blk_below hy1.out hb2.out) 0).trans rfl
  have y1 : W.cell? ⟨w.heap.size + 1, 1, none⟩ = some (.int .i64 d.f1) := (blk_cell (blk_below hy1.out hb2.out) 1).trans rfl
  have y2 : W.cell? ⟨w.heap.size + 1, 2, none⟩ = some (.int .i64 d.f2) := (blk_cell (blk_below hy1.out hb2.out) 2).trans rfl
  go_upto_region 30 with (fail)
  clear y0 y1 y2
  have hb3 := hb2
  have y1 : W.cell? ⟨w.heap.size + 1, 1, none⟩ = some (.int .i64 d.f1) := (blk_cell (blk_below hy1.out hb3.out) 1).trans rfl
  have y2 : W.cell? ⟨w.heap.size + 1, 2, none⟩ = some (.int .i64 d.f2) := (blk_cell (blk_below hy1.out hb3.out) 2).trans rfl
  have hP3 := Aside0.mk (hP.out W (hR1.out.below hb3.out))
  go_upto_region 31 with (go_at_call 15; refine hP3.out.mono ?_; rintro e w4 ⟨rfl, hs4, hf4⟩; replace hs4 := Aside0.mk hs4; replace hf4 := Aside0.mk hf4)
  have hng : ∀ k, w.heap.size ≤ k → ¬ (k = a.g) := fun k hk e => hRn.out k hk (.inl e)
  have hx4 := hf4.out.blk (blk_below hx1.out hb3.out) (hng _ (by omega))
  have hz4 := hf4.out.blk (blk_below hz1.out hb3.out) (hng _ (by omega))
  clear y1 y2 hng
  have x0 : w4.cell? ⟨w.heap.size, 0, none⟩ = some (.slice A0 own.length c0) := (blk_cell hx4 0).trans rfl
  have x1 : w4.cell? ⟨w.heap.size, 1, none⟩ = some (.slice A1 wh.length c1) := (blk_cell hx4 1).trans rfl
  have x2 : w4.cell? ⟨w.heap.size, 2, none⟩ = some (.int .i64 now) := (blk_cell hx4 2).trans rfl
  have x3 : w4.cell? ⟨w.heap.size, 3, none⟩ = some (.slice A3 L.length c3) := (blk_cell hx4 3).trans rfl
  have z0 : w4.cell? ⟨w.heap.size + 1 + 1, 0, none⟩ = some (.slice none 0 0) := (blk_cell hz4 0).trans rfl
  have z1 : w4.cell? ⟨w.heap.size + 1 + 1, 1, none⟩ = some (.slice none 0 0) := (blk_cell hz4 1).trans rfl
  have z2 : w4.cell? ⟨w.heap.size + 1 + 1, 2, none⟩ = some (.int .i64 0) := (blk_cell hz4 2).trans rfl
  have z3 : w4.cell? ⟨w.heap.size + 1 + 1, 3, none⟩ = some (.slice none 0 0) := (blk_cell hz4 3).trans rfl
  have zf := fun j => blk_frozen hz4 j
  have HZ := Aside0.mk (st4_blk hz4 (.slice A0 own.length c0) (.slice A1 wh.length c1) (.int .i64 now) (.slice A3 L.length c3))
  clear hx4 hz4
  go_wp2
  refine bodyPost_ret (results_row2 rfl _ _ (w.heap.size + 1 + 1) 57 _ (0, 0) _ rfl HZ.out.1 Try.underlying57 (by kernel_rfl)) rfl ?_
  exact Did.of (ST.done (Far.of_below (below_step hb1.out hb3.out)) hs4.out (hX.out.below hb3.out) (below_step h1.out.bel hb3.out) hf4.out (fun k e => .inl e) (fun k h => .inl h) hge.out (h.out.pi.more (by have := hc.out; have := hi.out; omega)) (by have := hnl.out; omega) (by have := hnl.out; omega) hc.out.1 (by have := hi.out; omega) HZ.out.2 (by omega) (by omega) (by have := blk_lt hz1.out; have := hb3.out.size; omega) hgt.out (hRn.out _ (by omega))) rfl ⟨rfl, rfl⟩

set_option maxHeartbeats 16000000 in
set_option maxRecDepth 100000 in
theorem step_word_no {w0 w : World} {a : RA} {own F : List Int} {t : Int} {B : List Int} {q : Int} {wh : List Int} {now : Int} {L : List S83} {A0 A1 A3 : Option Addr} {c0 c1 c3 m i : Nat} (h : ST w0 w a own F t B q wh now L (.slice A0 own.length c0) (.slice A1 wh.length c1) (.slice A3 L.length c3) m i) (hi : i < 60)
    (d : S26) (A5 : Option Addr) (c5 : Nat) (hD : DeedWf d) (hDC : Kd.C (Kd.int .u8) w0 A5 d.f5.length d.f5) (hDc : d.f5.length ≤ c5) (hk : d.f0 ≠ 0 ∧ d.f0 ≠ 1 ∧ d.f0 ≠ 2 ∧ d.f0 ≠ 3 ∧ d.f0 ≠ 4) (h0 : 0 ≤ d.f2) (h5 : d.f2 < 512) (hp : ¬ pk own d.f1 0 1) :
    Calls Try.prog 21 #[.pointer (some ⟨a.g, 0, none⟩), .agg #[.slice A0 own.length c0, .slice A1 wh.length c1, .int .i64 now, .slice A3 L.length c3], .agg #[.int .i64 d.f0, .int .i64 d.f1, .int .i64 d.f2, .int .i64 d.f3, .int .u64 d.f4, .slice A5 d.f5.length c5]] w fun e w' => Did w0 w a (.slice A0 own.length c0) (.slice A1 wh.length c1) q m (i + 1) e w' := by
  obtain ⟨W1, hW1⟩ : ∃ W1, W1 = ((w.alloc (C57 (.slice A0 own.length c0) (.slice A1 wh.length c1) now (.slice A3 L.length c3))).alloc (C26 d.f0 d.f1 d.f2 d.f3 d.f4 A5 d.f5.length c5)).alloc (C57 (.slice none 0 0) (.slice none 0 0) 0 (.slice none 0 0)) := ⟨_, rfl⟩
  have hb1 := below_alloc (below_alloc (below_alloc (Below.refl w.heap.size w) (C57 (.slice A0 own.length c0) (.slice A1 wh.length c1) now (.slice A3 L.length c3))) (C26 d.f0 d.f1 d.f2 d.f3 d.f4 A5 d.f5.length c5)) (C57 (.slice none 0 0) (.slice none 0 0) 0 (.slice none 0 0))
  have hx1 := blk_alloc (blk_alloc (blk_new w (C57 (.slice A0 own.length c0) (.slice A1 wh.length c1) now (.slice A3 L.length c3))) (C26 d.f0 d.f1 d.f2 d.f3 d.f4 A5 d.f5.length c5)) (C57 (.slice none 0 0) (.slice none 0 0) 0 (.slice none 0 0))
  have hy1 := blk_alloc (blk_new (w.alloc (C57 (.slice A0 own.length c0) (.slice A1 wh.length c1) now (.slice A3 L.length c3))) (C26 d.f0 d.f1 d.f2 d.f3 d.f4 A5 d.f5.length c5)) (C57 (.slice none 0 0) (.slice none 0 0) 0 (.slice none 0 0))
  have hz1 := blk_new ((w.alloc (C57 (.slice A0 own.length c0) (.slice A1 wh.length c1) now (.slice A3 L.length c3))).alloc (C26 d.f0 d.f1 d.f2 d.f3 d.f4 A5 d.f5.length c5)) (C57 (.slice none 0 0) (.slice none 0 0) 0 (.slice none 0 0))
  rw [World.size_alloc] at hy1
  rw [World.size_alloc, World.size_alloc] at hz1
  rw [← hW1] at hb1 hx1 hy1 hz1
  have hgw := (h.rs.own_lt a.g (.inl rfl)).2
  have h1 := h.below hb1
  obtain ⟨bx, hbx⟩ : ∃ bx, bx = w.heap.size := ⟨_, rfl⟩
  obtain ⟨W, hW⟩ : ∃ W, W = W1 := ⟨_, rfl⟩
  have x0 : W.cell? ⟨w.heap.size, 0, none⟩ = some (.slice A0 own.length c0) := by rw [hW]; exact (blk_cell hx1 0).trans rfl
  have x1 : W.cell? ⟨w.heap.size, 1, none⟩ = some (.slice A1 wh.length c1) := by rw [hW]; exact (blk_cell hx1 1).trans rfl
  have x2 : W.cell? ⟨w.heap.size, 2, none⟩ = some (.int .i64 now) := by rw [hW]; exact (blk_cell hx1 2).trans rfl
  have x3 : W.cell? ⟨w.heap.size, 3, none⟩ = some (.slice A3 L.length c3) := by rw [hW]; exact (blk_cell hx1 3).trans rfl
  have y0 : W.cell? ⟨w.heap.size + 1, 0, none⟩ = some (.int .i64 d.f0) := by rw [hW]; exact (blk_cell hy1 0).trans rfl
  have y1 : W.cell? ⟨w.heap.size + 1, 1, none⟩ = some (.int .i64 d.f1) := by rw [hW]; exact (blk_cell hy1 1).trans rfl
  have y2 : W.cell? ⟨w.heap.size + 1, 2, none⟩ = some (.int .i64 d.f2) := by rw [hW]; exact (blk_cell hy1 2).trans rfl
  have y3 : W.cell? ⟨w.heap.size + 1, 3, none⟩ = some (.int .i64 d.f3) := by rw [hW]; exact (blk_cell hy1 3).trans rfl
  have y4 : W.cell? ⟨w.heap.size + 1, 4, none⟩ = some (.int .u64 d.f4) := by rw [hW]; exact (blk_cell hy1 4).trans rfl
  have y5 : W.cell? ⟨w.heap.size + 1, 5, none⟩ = some (.slice A5 d.f5.length c5) := by rw [hW]; exact (blk_cell hy1 5).trans rfl
  have hWW := Aside0.mk (hW.trans hW1)
  rw [← hW] at hb1 hx1 hy1 hz1 h1
  clear hW1 hW
  clear W1
  have hX := Aside0.mk ((h.xf.at (Q' := Qb a w.heap.size) (Nat.le_refl _) (fun k hk => hk.imp id (fun e => e.1))).below hb1)
  have hR1 := Aside0.mk h1.rs
  have hQ1 := Aside0.mk (show ∀ k, Qb a w.heap.size k → k < W.heap.size from fun k hk => by
    rcases hk with e | e
    · exact (h1.rs.own_lt k e).2
    · have := blk_lt hz1; omega)
  have hRn := Aside0.mk (show ∀ k, w.heap.size ≤ k → ¬ Rown a k from fun k hk hr => by have := (h.rs.own_lt k hr).2; omega)
  have hgt := Aside0.mk h.bel.size
  have hge := Aside0.mk (fun k hk => (h.rs.own_lt k hk).1)
  have hnl := Aside0.mk (And.intro h.now h.len)
  replace hb1 := Aside0.mk hb1
  replace hx1 := Aside0.mk hx1
  replace hy1 := Aside0.mk hy1
  replace hz1 := Aside0.mk hz1
  replace h1 := Aside0.mk h1
  replace hgw := Aside0.mk hgw
  have hc := Aside0.mk (And.intro h.m96 h.i60)
  have hol := Aside0.mk h.own_len
  replace hDC := Aside0.mk hDC
  replace hDc := Aside0.mk hDc
  replace hD := Aside0.mk hD
  replace hi := Aside0.mk hi
  replace h := Aside0.mk h
  have hR0 := Kd.R_reads' hX.out.r0
  have hR1' := Kd.R_reads' hX.out.r1
  have hV := Kd.V_reads' hX.out.r3
  have hpw : ¬ pw own d.f1 d.f2 := fun e => hp e.2
  have hTh := gunnyref06_There.calls A0 c0 own A1 c1 wh now A3 c3 L d.f1 0 1 _ W hR0.2.2 hR0.2.1 hR1'.2.2 hR1'.2.1 hV.2.2 hV.2.1 (There_some own wh now L (by have := hol.out.1; have := hc.out.1; omega) d.f1 0 1 (by omega))
  rw [decide_eq_false hp] at hTh
  replace hTh := Aside0.mk hTh
  have g1 : decide (d.f2 ≥ 0) = true := decide_eq_true h0
  have g1' : decide (0 ≤ d.f2) = true := decide_eq_true h0
  have g2 : decide (d.f2 < 512) = true := decide_eq_true h5
  have hP := fun W (hW : RS W w0.heap.size a ⟨own, F, t, B, q⟩) => word_q w0.heap.size a own F t B q d.f1 d.f2 W hW h.out.gd
  have hq : qn q (pw own d.f1 d.f2) = q := if_neg hpw
  simp only [decide_eq_false hpw, hq, if_neg hpw] at hP
  replace hP := Aside0.mk hP
  clear hR0 hR1' hV hq hp hpw h0 h5
  have e0 : (d.f0 == 0) = false := beq_eq_false_iff_ne.mpr (by omega)
  have e1 : (d.f0 == 1) = false := beq_eq_false_iff_ne.mpr (by omega)
  have e2 : (d.f0 == 2) = false := beq_eq_false_iff_ne.mpr (by omega)
  have e3 : (d.f0 == 3) = false := beq_eq_false_iff_ne.mpr (by omega)
  have e4 : (d.f0 == 4) = false := beq_eq_false_iff_ne.mpr (by omega)
  clear hk
  go_enter Try.func21, Try.ntmps21
  go_upto_region 1 with (fail)
  rw [← hWW.out]
  go_upto_region 23 with (go_at_call 36; refine hTh.out.mono ?_; rintro e w2 ⟨rfl, hb2⟩; replace hb2 := Aside0.mk hb2)
  clear x0 x1 x2 x3 y0 y1 y2 y3 y4 y5
  have y0 : w2.cell? ⟨w.heap.size + 1, 0, none⟩ = some (.int .i64 d.f0) := (blk_cell (blk_below hy1.out hb2.out) 0).trans rfl
  have y1 : w2.cell? ⟨w.heap.size + 1, 1, none⟩ = some (.int .i64 d.f1) := (blk_cell (blk_below hy1.out hb2.out) 1).trans rfl
  have y2 : w2.cell? ⟨w.heap.size + 1, 2, none⟩ = some (.int .i64 d.f2) := (blk_cell (blk_below hy1.out hb2.out) 2).trans rfl
  go_upto_region 30 with (fail)
  clear y0 y1 y2
  have hb3 := hb2
  have y1 : w2.cell? ⟨w.heap.size + 1, 1, none⟩ = some (.int .i64 d.f1) := (blk_cell (blk_below hy1.out hb3.out) 1).trans rfl
  have y2 : w2.cell? ⟨w.heap.size + 1, 2, none⟩ = some (.int .i64 d.f2) := (blk_cell (blk_below hy1.out hb3.out) 2).trans rfl
  have hP3 := Aside0.mk (hP.out w2 (hR1.out.below hb3.out))
  go_upto_region 31 with (go_at_call 15; refine hP3.out.mono ?_; rintro e w4 ⟨rfl, hs4, hf4⟩; replace hs4 := Aside0.mk hs4; replace hf4 := Aside0.mk hf4)
  have hng : ∀ k, w.heap.size ≤ k → ¬ (k = a.g) := fun k hk e => hRn.out k hk (.inl e)
  have hx4 := hf4.out.blk (blk_below hx1.out hb3.out) (hng _ (by omega))
  have hz4 := hf4.out.blk (blk_below hz1.out hb3.out) (hng _ (by omega))
  clear y1 y2 hng
  have x0 : w4.cell? ⟨w.heap.size, 0, none⟩ = some (.slice A0 own.length c0) := (blk_cell hx4 0).trans rfl
  have x1 : w4.cell? ⟨w.heap.size, 1, none⟩ = some (.slice A1 wh.length c1) := (blk_cell hx4 1).trans rfl
  have x2 : w4.cell? ⟨w.heap.size, 2, none⟩ = some (.int .i64 now) := (blk_cell hx4 2).trans rfl
  have x3 : w4.cell? ⟨w.heap.size, 3, none⟩ = some (.slice A3 L.length c3) := (blk_cell hx4 3).trans rfl
  have z0 : w4.cell? ⟨w.heap.size + 1 + 1, 0, none⟩ = some (.slice none 0 0) := (blk_cell hz4 0).trans rfl
  have z1 : w4.cell? ⟨w.heap.size + 1 + 1, 1, none⟩ = some (.slice none 0 0) := (blk_cell hz4 1).trans rfl
  have z2 : w4.cell? ⟨w.heap.size + 1 + 1, 2, none⟩ = some (.int .i64 0) := (blk_cell hz4 2).trans rfl
  have z3 : w4.cell? ⟨w.heap.size + 1 + 1, 3, none⟩ = some (.slice none 0 0) := (blk_cell hz4 3).trans rfl
  have zf := fun j => blk_frozen hz4 j
  have HZ := Aside0.mk (st4_blk hz4 (.slice A0 own.length c0) (.slice A1 wh.length c1) (.int .i64 now) (.slice A3 L.length c3))
  clear hx4 hz4
  go_wp2
  refine bodyPost_ret (results_row2 rfl _ _ (w.heap.size + 1 + 1) 57 _ (0, 0) _ rfl HZ.out.1 Try.underlying57 (by kernel_rfl)) rfl ?_
  exact Did.of (ST.done (Far.of_below (below_step hb1.out hb3.out)) hs4.out (hX.out.below hb3.out) (below_step h1.out.bel hb3.out) hf4.out (fun k e => .inl e) (fun k h => .inl h) hge.out (h.out.pi.more (by have := hc.out; have := hi.out; omega)) (by have := hnl.out; omega) (by have := hnl.out; omega) hc.out.1 (by have := hi.out; omega) HZ.out.2 (by omega) (by omega) (by have := blk_lt hz1.out; have := hb3.out.size; omega) hgt.out (hRn.out _ (by omega))) rfl ⟨rfl, rfl⟩

set_option maxHeartbeats 16000000 in
set_option maxRecDepth 100000 in
theorem step_setword_low {w0 w : World} {a : RA} {own F : List Int} {t : Int} {B : List Int} {q : Int} {wh : List Int} {now : Int} {L : List S83} {A0 A1 A3 : Option Addr} {c0 c1 c3 m i : Nat} (h : ST w0 w a own F t B q wh now L (.slice A0 own.length c0) (.slice A1 wh.length c1) (.slice A3 L.length c3) m i) (hi : i < 60)
    (d : S26) (A5 : Option Addr) (c5 : Nat) (hD : DeedWf d) (hDC : Kd.C (Kd.int .u8) w0 A5 d.f5.length d.f5) (hDc : d.f5.length ≤ c5) (hk : d.f0 = 4) (hp : d.f2 < 0) :
    Calls Try.prog 21 #[.pointer (some ⟨a.g, 0, none⟩), .agg #[.slice A0 own.length c0, .slice A1 wh.length c1, .int .i64 now, .slice A3 L.length c3], .agg #[.int .i64 d.f0, .int .i64 d.f1, .int .i64 d.f2, .int .i64 d.f3, .int .u64 d.f4, .slice A5 d.f5.length c5]] w fun e w' => Did w0 w a (.slice A0 own.length c0) (.slice A1 wh.length c1) q m (i + 1) e w' := by
  obtain ⟨W1, hW1⟩ : ∃ W1, W1 = ((w.alloc (C57 (.slice A0 own.length c0) (.slice A1 wh.length c1) now (.slice A3 L.length c3))).alloc (C26 d.f0 d.f1 d.f2 d.f3 d.f4 A5 d.f5.length c5)).alloc (C57 (.slice none 0 0) (.slice none 0 0) 0 (.slice none 0 0)) := ⟨_, rfl⟩
  have hb1 := below_alloc (below_alloc (below_alloc (Below.refl w.heap.size w) (C57 (.slice A0 own.length c0) (.slice A1 wh.length c1) now (.slice A3 L.length c3))) (C26 d.f0 d.f1 d.f2 d.f3 d.f4 A5 d.f5.length c5)) (C57 (.slice none 0 0) (.slice none 0 0) 0 (.slice none 0 0))
  have hx1 := blk_alloc (blk_alloc (blk_new w (C57 (.slice A0 own.length c0) (.slice A1 wh.length c1) now (.slice A3 L.length c3))) (C26 d.f0 d.f1 d.f2 d.f3 d.f4 A5 d.f5.length c5)) (C57 (.slice none 0 0) (.slice none 0 0) 0 (.slice none 0 0))
  have hy1 := blk_alloc (blk_new (w.alloc (C57 (.slice A0 own.length c0) (.slice A1 wh.length c1) now (.slice A3 L.length c3))) (C26 d.f0 d.f1 d.f2 d.f3 d.f4 A5 d.f5.length c5)) (C57 (.slice none 0 0) (.slice none 0 0) 0 (.slice none 0 0))
  have hz1 := blk_new ((w.alloc (C57 (.slice A0 own.length c0) (.slice A1 wh.length c1) now (.slice A3 L.length c3))).alloc (C26 d.f0 d.f1 d.f2 d.f3 d.f4 A5 d.f5.length c5)) (C57 (.slice none 0 0) (.slice none 0 0) 0 (.slice none 0 0))
  rw [World.size_alloc] at hy1
  rw [World.size_alloc, World.size_alloc] at hz1
  rw [← hW1] at hb1 hx1 hy1 hz1
  have hgw := (h.rs.own_lt a.g (.inl rfl)).2
  have h1 := h.below hb1
  obtain ⟨bx, hbx⟩ : ∃ bx, bx = w.heap.size := ⟨_, rfl⟩
  obtain ⟨W, hW⟩ : ∃ W, W = W1 := ⟨_, rfl⟩
  have x0 : W.cell? ⟨w.heap.size, 0, none⟩ = some (.slice A0 own.length c0) := by rw [hW]; exact (blk_cell hx1 0).trans rfl
  have x1 : W.cell? ⟨w.heap.size, 1, none⟩ = some (.slice A1 wh.length c1) := by rw [hW]; exact (blk_cell hx1 1).trans rfl
  have x2 : W.cell? ⟨w.heap.size, 2, none⟩ = some (.int .i64 now) := by rw [hW]; exact (blk_cell hx1 2).trans rfl
  have x3 : W.cell? ⟨w.heap.size, 3, none⟩ = some (.slice A3 L.length c3) := by rw [hW]; exact (blk_cell hx1 3).trans rfl
  have y0 : W.cell? ⟨w.heap.size + 1, 0, none⟩ = some (.int .i64 d.f0) := by rw [hW]; exact (blk_cell hy1 0).trans rfl
  have y1 : W.cell? ⟨w.heap.size + 1, 1, none⟩ = some (.int .i64 d.f1) := by rw [hW]; exact (blk_cell hy1 1).trans rfl
  have y2 : W.cell? ⟨w.heap.size + 1, 2, none⟩ = some (.int .i64 d.f2) := by rw [hW]; exact (blk_cell hy1 2).trans rfl
  have y3 : W.cell? ⟨w.heap.size + 1, 3, none⟩ = some (.int .i64 d.f3) := by rw [hW]; exact (blk_cell hy1 3).trans rfl
  have y4 : W.cell? ⟨w.heap.size + 1, 4, none⟩ = some (.int .u64 d.f4) := by rw [hW]; exact (blk_cell hy1 4).trans rfl
  have y5 : W.cell? ⟨w.heap.size + 1, 5, none⟩ = some (.slice A5 d.f5.length c5) := by rw [hW]; exact (blk_cell hy1 5).trans rfl
  have hWW := Aside0.mk (hW.trans hW1)
  rw [← hW] at hb1 hx1 hy1 hz1 h1
  clear hW1 hW
  clear W1
  have hX := Aside0.mk ((h.xf.at (Q' := Qb a w.heap.size) (Nat.le_refl _) (fun k hk => hk.imp id (fun e => e.1))).below hb1)
  have hR1 := Aside0.mk h1.rs
  have hQ1 := Aside0.mk (show ∀ k, Qb a w.heap.size k → k < W.heap.size from fun k hk => by
    rcases hk with e | e
    · exact (h1.rs.own_lt k e).2
    · have := blk_lt hz1; omega)
  have hRn := Aside0.mk (show ∀ k, w.heap.size ≤ k → ¬ Rown a k from fun k hk hr => by have := (h.rs.own_lt k hr).2; omega)
  have hgt := Aside0.mk h.bel.size
  have hge := Aside0.mk (fun k hk => (h.rs.own_lt k hk).1)
  have hnl := Aside0.mk (And.intro h.now h.len)
  replace hb1 := Aside0.mk hb1
  replace hx1 := Aside0.mk hx1
  replace hy1 := Aside0.mk hy1
  replace hz1 := Aside0.mk hz1
  replace h1 := Aside0.mk h1
  replace hgw := Aside0.mk hgw
  have hc := Aside0.mk (And.intro h.m96 h.i60)
  have hol := Aside0.mk h.own_len
  replace hDC := Aside0.mk hDC
  replace hDc := Aside0.mk hDc
  replace hD := Aside0.mk hD
  replace hi := Aside0.mk hi
  replace h := Aside0.mk h
  have hR0 := Kd.R_reads' hX.out.r0
  have hR1' := Kd.R_reads' hX.out.r1
  have hV := Kd.V_reads' hX.out.r3
  have hpw : ¬ pw own d.f1 d.f2 := fun e => by have := e.1; omega
  have g1 : decide (d.f2 ≥ 0) = false := decide_eq_false (by omega)
  have g1' : decide (0 ≤ d.f2) = false := decide_eq_false (by omega)
  have hx64 : 0 ≤ d.f4 ∧ d.f4 < 18446744073709551616 := by have := bounds_u64 hD.out.2.2.2.2.1; omega
  have hP := fun W (hW : RS W w0.heap.size a ⟨own, F, t, B, q⟩) => setword_q w0.heap.size a own F t B q d.f1 d.f2 d.f4 W hW h.out.gd hx64.1 hx64.2
  have hq : qn q (pw own d.f1 d.f2) = q := if_neg hpw
  simp only [decide_eq_false hpw, hq, if_neg hpw] at hP
  replace hP := Aside0.mk hP
  have hgne : ¬ a.g = w.heap.size + 1 + 1 := by have := hgw.out; omega
  have hgne2 : ¬ w.heap.size + 1 + 1 = a.g := by omega
  have hzx : ¬ w.heap.size = w.heap.size + 1 + 1 := by omega
  have hzx2 : ¬ w.heap.size + 1 + 1 = w.heap.size := by omega
  clear hR0 hR1' hV hq hp hpw hx64
  have e0 : (d.f0 == 0) = false := beq_eq_false_iff_ne.mpr (by omega)
  have e1 : (d.f0 == 1) = false := beq_eq_false_iff_ne.mpr (by omega)
  have e2 : (d.f0 == 2) = false := beq_eq_false_iff_ne.mpr (by omega)
  have e3 : (d.f0 == 3) = false := beq_eq_false_iff_ne.mpr (by omega)
  have e4 : (d.f0 == 4) = true := beq_iff_eq.mpr hk
  clear hk
  go_enter Try.func21, Try.ntmps21
  go_upto_region 1 with (fail)
  rw [← hWW.out]
  go_upto_region 23 with (fail)
  have hb2 := Aside0.mk (Below.refl W.heap.size W)
  clear x0 x1 x2 x3 y0 y1 y2 y3 y4 y5
  have y0 : W.cell? ⟨w.heap.size + 1, 0, none⟩ = some (.int .i64 d.f0) := (blk_cell (blk_below hy1.out hb2.out) 0).trans rfl
  go_upto_region 26 with (fail)
  clear y0
  have hx4 := Aside0.mk (blk_below hx1.out hb2.out)
  have hy4 := Aside0.mk (blk_below hy1.out hb2.out)
  have hz4 := Aside0.mk (blk_below hz1.out hb2.out)
  have hX4 := Aside0.mk (hX.out.below hb2.out)
  have hS4 := Aside0.mk (hR1.out.below hb2.out)
  have hB4 := Aside0.mk (below_step h1.out.bel hb2.out)
  have hT4 := Aside0.mk (Far.of_below (S := fun k => some k = (Value.slice A0 own.length c0).ownBlock ∨ some k = (Value.slice A1 wh.length c1).ownBlock) (below_step hb1.out hb2.out))
  have x0 : W.cell? ⟨w.heap.size, 0, none⟩ = some (.slice A0 own.length c0) := (blk_cell hx4.out 0).trans rfl
  have x1 : W.cell? ⟨w.heap.size, 1, none⟩ = some (.slice A1 wh.length c1) := (blk_cell hx4.out 1).trans rfl
  have x2 : W.cell? ⟨w.heap.size, 2, none⟩ = some (.int .i64 now) := (blk_cell hx4.out 2).trans rfl
  have x3 : W.cell? ⟨w.heap.size, 3, none⟩ = some (.slice A3 L.length c3) := (blk_cell hx4.out 3).trans rfl
  have y1 : W.cell? ⟨w.heap.size + 1, 1, none⟩ = some (.int .i64 d.f1) := (blk_cell hy4.out 1).trans rfl
  have y2 : W.cell? ⟨w.heap.size + 1, 2, none⟩ = some (.int .i64 d.f2) := (blk_cell hy4.out 2).trans rfl
  have y4 : W.cell? ⟨w.heap.size + 1, 4, none⟩ = some (.int .u64 d.f4) := (blk_cell hy4.out 4).trans rfl
  have hPn := Aside0.mk (fun n => hP.out (W.drewN n) (hS4.out.below (pw_below_drewN (Below.refl _ W) n)))
  go_region_held3 (fun w' => w'.cell? ⟨w.heap.size, 0, none⟩ = some (.slice A0 own.length c0) ∧ w'.cell? ⟨w.heap.size, 1, none⟩ = some (.slice A1 wh.length c1) ∧ w'.cell? ⟨w.heap.size, 2, none⟩ = some (.int .i64 now) ∧ w'.cell? ⟨w.heap.size, 3, none⟩ = some (.slice A3 L.length c3) ∧ w'.cell? ⟨w.heap.size + 1, 1, none⟩ = some (.int .i64 d.f1) ∧ w'.cell? ⟨w.heap.size + 1, 2, none⟩ = some (.int .i64 d.f2) ∧ w'.cell? ⟨w.heap.size + 1, 4, none⟩ = some (.int .u64 d.f4))
    (first | go_keep | (go_split_ands; refine ⟨?_, ?_, ?_, ?_, ?_, ?_, ?_⟩; (exact p0); (exact p1); (exact p2); (exact p3); (exact p4); (exact p5); (exact p6)))
    (first | (go_at_call 18; refine (hPn.out _).mono ?_; rintro e w5 ⟨rfl, hs5, hf5⟩; have hnr : ∀ k, w.heap.size ≤ k → ¬ (k = a.g ∨ k = a.b) := (fun k hk e => hRn.out k hk (e.elim .inl (fun e => .inr (.inl e)))); have hx5 := hf5.blk (blkd hx4.out) (hnr _ (by omega)); have hy5 := hf5.blk (blkd hy4.out) (hnr _ (by omega)); have hz5 := hf5.blk (blkd hz4.out) (hnr _ (by omega)); have p0 : w5.cell? ⟨w.heap.size, 0, none⟩ = some (.slice A0 own.length c0) := (blk_cell hx5 0).trans rfl; have p1 : w5.cell? ⟨w.heap.size, 1, none⟩ = some (.slice A1 wh.length c1) := (blk_cell hx5 1).trans rfl; have p2 : w5.cell? ⟨w.heap.size, 2, none⟩ = some (.int .i64 now) := (blk_cell hx5 2).trans rfl; have p3 : w5.cell? ⟨w.heap.size, 3, none⟩ = some (.slice A3 L.length c3) := (blk_cell hx5 3).trans rfl; have p4 : w5.cell? ⟨w.heap.size + 1, 1, none⟩ = some (.int .i64 d.f1) := (blk_cell hy5 1).trans rfl; have p5 : w5.cell? ⟨w.heap.size + 1, 2, none⟩ = some (.int .i64 d.f2) := (blk_cell hy5 2).trans rfl; have p6 : w5.cell? ⟨w.heap.size + 1, 4, none⟩ = some (.int .u64 d.f4) := (blk_cell hy5 4).trans rfl; have z0 : w5.cell? ⟨w.heap.size + 1 + 1, 0, none⟩ = some (.slice none 0 0) := (blk_cell hz5 0).trans rfl; have z1 : w5.cell? ⟨w.heap.size + 1 + 1, 1, none⟩ = some (.slice none 0 0) := (blk_cell hz5 1).trans rfl; have z2 : w5.cell? ⟨w.heap.size + 1 + 1, 2, none⟩ = some (.int .i64 0) := (blk_cell hz5 2).trans rfl; have z3 : w5.cell? ⟨w.heap.size + 1 + 1, 3, none⟩ = some (.slice none 0 0) := (blk_cell hz5 3).trans rfl; have zf := fun j => blk_frozen hz5 j; have HZ := Aside0.mk (st4_blk hz5 (.slice A0 own.length c0) (.slice A1 wh.length c1) (.int .i64 now) (.slice A3 L.length c3)); replace hs5 := Aside0.mk hs5; replace hf5 := Aside0.mk hf5; clear hx5 hy5 hz5 hnr))
  go_wp2
  refine bodyPost_ret (results_row2 rfl _ _ (w.heap.size + 1 + 1) 57 _ (0, 0) _ rfl HZ.out.1 Try.underlying57 (by kernel_rfl)) rfl ?_
  exact Did.of (ST.done (hT4.out.drewN _) hs5.out (hX4.out.below (pw_below_drewN (Below.refl _ W) _)) (below_step hB4.out (pw_below_drewN (Below.refl _ W) _)) hf5.out (fun k e => e.elim .inl (fun e => .inr (.inl e))) (fun k h => .inl h) hge.out (h.out.pi.more (by have := hc.out; have := hi.out; omega)) (by have := hnl.out; omega) (by have := hnl.out; omega) hc.out.1 (by have := hi.out; omega) HZ.out.2 (by omega) (by omega) (blk_lt (blkd hz4.out)) hgt.out (hRn.out _ (by omega))) rfl ⟨rfl, rfl⟩

set_option maxHeartbeats 16000000 in
set_option maxRecDepth 100000 in
theorem step_setword_high {w0 w : World} {a : RA} {own F : List Int} {t : Int} {B : List Int} {q : Int} {wh : List Int} {now : Int} {L : List S83} {A0 A1 A3 : Option Addr} {c0 c1 c3 m i : Nat} (h : ST w0 w a own F t B q wh now L (.slice A0 own.length c0) (.slice A1 wh.length c1) (.slice A3 L.length c3) m i) (hi : i < 60)
    (d : S26) (A5 : Option Addr) (c5 : Nat) (hD : DeedWf d) (hDC : Kd.C (Kd.int .u8) w0 A5 d.f5.length d.f5) (hDc : d.f5.length ≤ c5) (hk : d.f0 = 4) (hp : 512 ≤ d.f2) :
    Calls Try.prog 21 #[.pointer (some ⟨a.g, 0, none⟩), .agg #[.slice A0 own.length c0, .slice A1 wh.length c1, .int .i64 now, .slice A3 L.length c3], .agg #[.int .i64 d.f0, .int .i64 d.f1, .int .i64 d.f2, .int .i64 d.f3, .int .u64 d.f4, .slice A5 d.f5.length c5]] w fun e w' => Did w0 w a (.slice A0 own.length c0) (.slice A1 wh.length c1) q m (i + 1) e w' := by
  obtain ⟨W1, hW1⟩ : ∃ W1, W1 = ((w.alloc (C57 (.slice A0 own.length c0) (.slice A1 wh.length c1) now (.slice A3 L.length c3))).alloc (C26 d.f0 d.f1 d.f2 d.f3 d.f4 A5 d.f5.length c5)).alloc (C57 (.slice none 0 0) (.slice none 0 0) 0 (.slice none 0 0)) := ⟨_, rfl⟩
  have hb1 := below_alloc (below_alloc (below_alloc (Below.refl w.heap.size w) (C57 (.slice A0 own.length c0) (.slice A1 wh.length c1) now (.slice A3 L.length c3))) (C26 d.f0 d.f1 d.f2 d.f3 d.f4 A5 d.f5.length c5)) (C57 (.slice none 0 0) (.slice none 0 0) 0 (.slice none 0 0))
  have hx1 := blk_alloc (blk_alloc (blk_new w (C57 (.slice A0 own.length c0) (.slice A1 wh.length c1) now (.slice A3 L.length c3))) (C26 d.f0 d.f1 d.f2 d.f3 d.f4 A5 d.f5.length c5)) (C57 (.slice none 0 0) (.slice none 0 0) 0 (.slice none 0 0))
  have hy1 := blk_alloc (blk_new (w.alloc (C57 (.slice A0 own.length c0) (.slice A1 wh.length c1) now (.slice A3 L.length c3))) (C26 d.f0 d.f1 d.f2 d.f3 d.f4 A5 d.f5.length c5)) (C57 (.slice none 0 0) (.slice none 0 0) 0 (.slice none 0 0))
  have hz1 := blk_new ((w.alloc (C57 (.slice A0 own.length c0) (.slice A1 wh.length c1) now (.slice A3 L.length c3))).alloc (C26 d.f0 d.f1 d.f2 d.f3 d.f4 A5 d.f5.length c5)) (C57 (.slice none 0 0) (.slice none 0 0) 0 (.slice none 0 0))
  rw [World.size_alloc] at hy1
  rw [World.size_alloc, World.size_alloc] at hz1
  rw [← hW1] at hb1 hx1 hy1 hz1
  have hgw := (h.rs.own_lt a.g (.inl rfl)).2
  have h1 := h.below hb1
  obtain ⟨bx, hbx⟩ : ∃ bx, bx = w.heap.size := ⟨_, rfl⟩
  obtain ⟨W, hW⟩ : ∃ W, W = W1 := ⟨_, rfl⟩
  have x0 : W.cell? ⟨w.heap.size, 0, none⟩ = some (.slice A0 own.length c0) := by rw [hW]; exact (blk_cell hx1 0).trans rfl
  have x1 : W.cell? ⟨w.heap.size, 1, none⟩ = some (.slice A1 wh.length c1) := by rw [hW]; exact (blk_cell hx1 1).trans rfl
  have x2 : W.cell? ⟨w.heap.size, 2, none⟩ = some (.int .i64 now) := by rw [hW]; exact (blk_cell hx1 2).trans rfl
  have x3 : W.cell? ⟨w.heap.size, 3, none⟩ = some (.slice A3 L.length c3) := by rw [hW]; exact (blk_cell hx1 3).trans rfl
  have y0 : W.cell? ⟨w.heap.size + 1, 0, none⟩ = some (.int .i64 d.f0) := by rw [hW]; exact (blk_cell hy1 0).trans rfl
  have y1 : W.cell? ⟨w.heap.size + 1, 1, none⟩ = some (.int .i64 d.f1) := by rw [hW]; exact (blk_cell hy1 1).trans rfl
  have y2 : W.cell? ⟨w.heap.size + 1, 2, none⟩ = some (.int .i64 d.f2) := by rw [hW]; exact (blk_cell hy1 2).trans rfl
  have y3 : W.cell? ⟨w.heap.size + 1, 3, none⟩ = some (.int .i64 d.f3) := by rw [hW]; exact (blk_cell hy1 3).trans rfl
  have y4 : W.cell? ⟨w.heap.size + 1, 4, none⟩ = some (.int .u64 d.f4) := by rw [hW]; exact (blk_cell hy1 4).trans rfl
  have y5 : W.cell? ⟨w.heap.size + 1, 5, none⟩ = some (.slice A5 d.f5.length c5) := by rw [hW]; exact (blk_cell hy1 5).trans rfl
  have hWW := Aside0.mk (hW.trans hW1)
  rw [← hW] at hb1 hx1 hy1 hz1 h1
  clear hW1 hW
  clear W1
  have hX := Aside0.mk ((h.xf.at (Q' := Qb a w.heap.size) (Nat.le_refl _) (fun k hk => hk.imp id (fun e => e.1))).below hb1)
  have hR1 := Aside0.mk h1.rs
  have hQ1 := Aside0.mk (show ∀ k, Qb a w.heap.size k → k < W.heap.size from fun k hk => by
    rcases hk with e | e
    · exact (h1.rs.own_lt k e).2
    · have := blk_lt hz1; omega)
  have hRn := Aside0.mk (show ∀ k, w.heap.size ≤ k → ¬ Rown a k from fun k hk hr => by have := (h.rs.own_lt k hr).2; omega)
  have hgt := Aside0.mk h.bel.size
  have hge := Aside0.mk (fun k hk => (h.rs.own_lt k hk).1)
  have hnl := Aside0.mk (And.intro h.now h.len)
  replace hb1 := Aside0.mk hb1
  replace hx1 := Aside0.mk hx1
  replace hy1 := Aside0.mk hy1
  replace hz1 := Aside0.mk hz1
  replace h1 := Aside0.mk h1
  replace hgw := Aside0.mk hgw
  have hc := Aside0.mk (And.intro h.m96 h.i60)
  have hol := Aside0.mk h.own_len
  replace hDC := Aside0.mk hDC
  replace hDc := Aside0.mk hDc
  replace hD := Aside0.mk hD
  replace hi := Aside0.mk hi
  replace h := Aside0.mk h
  have hR0 := Kd.R_reads' hX.out.r0
  have hR1' := Kd.R_reads' hX.out.r1
  have hV := Kd.V_reads' hX.out.r3
  have hpw : ¬ pw own d.f1 d.f2 := fun e => by have := e.1; omega
  have g1 : decide (d.f2 ≥ 0) = true := decide_eq_true (by omega)
  have g1' : decide (0 ≤ d.f2) = true := decide_eq_true (by omega)
  have g2 : decide (d.f2 < 512) = false := decide_eq_false (by omega)
  have hx64 : 0 ≤ d.f4 ∧ d.f4 < 18446744073709551616 := by have := bounds_u64 hD.out.2.2.2.2.1; omega
  have hP := fun W (hW : RS W w0.heap.size a ⟨own, F, t, B, q⟩) => setword_q w0.heap.size a own F t B q d.f1 d.f2 d.f4 W hW h.out.gd hx64.1 hx64.2
  have hq : qn q (pw own d.f1 d.f2) = q := if_neg hpw
  simp only [decide_eq_false hpw, hq, if_neg hpw] at hP
  replace hP := Aside0.mk hP
  have hgne : ¬ a.g = w.heap.size + 1 + 1 := by have := hgw.out; omega
  have hgne2 : ¬ w.heap.size + 1 + 1 = a.g := by omega
  have hzx : ¬ w.heap.size = w.heap.size + 1 + 1 := by omega
  have hzx2 : ¬ w.heap.size + 1 + 1 = w.heap.size := by omega
  clear hR0 hR1' hV hq hp hpw hx64
  have e0 : (d.f0 == 0) = false := beq_eq_false_iff_ne.mpr (by omega)
  have e1 : (d.f0 == 1) = false := beq_eq_false_iff_ne.mpr (by omega)
  have e2 : (d.f0 == 2) = false := beq_eq_false_iff_ne.mpr (by omega)
  have e3 : (d.f0 == 3) = false := beq_eq_false_iff_ne.mpr (by omega)
  have e4 : (d.f0 == 4) = true := beq_iff_eq.mpr hk
  clear hk
  go_enter Try.func21, Try.ntmps21
  go_upto_region 1 with (fail)
  rw [← hWW.out]
  go_upto_region 23 with (fail)
  have hb2 := Aside0.mk (Below.refl W.heap.size W)
  clear x0 x1 x2 x3 y0 y1 y2 y3 y4 y5
  have y0 : W.cell? ⟨w.heap.size + 1, 0, none⟩ = some (.int .i64 d.f0) := (blk_cell (blk_below hy1.out hb2.out) 0).trans rfl
  go_upto_region 26 with (fail)
  clear y0
  have hx4 := Aside0.mk (blk_below hx1.out hb2.out)
  have hy4 := Aside0.mk (blk_below hy1.out hb2.out)
  have hz4 := Aside0.mk (blk_below hz1.out hb2.out)
  have hX4 := Aside0.mk (hX.out.below hb2.out)
  have hS4 := Aside0.mk (hR1.out.below hb2.out)
  have hB4 := Aside0.mk (below_step h1.out.bel hb2.out)
  have hT4 := Aside0.mk (Far.of_below (S := fun k => some k = (Value.slice A0 own.length c0).ownBlock ∨ some k = (Value.slice A1 wh.length c1).ownBlock) (below_step hb1.out hb2.out))
  have x0 : W.cell? ⟨w.heap.size, 0, none⟩ = some (.slice A0 own.length c0) := (blk_cell hx4.out 0).trans rfl
  have x1 : W.cell? ⟨w.heap.size, 1, none⟩ = some (.slice A1 wh.length c1) := (blk_cell hx4.out 1).trans rfl
  have x2 : W.cell? ⟨w.heap.size, 2, none⟩ = some (.int .i64 now) := (blk_cell hx4.out 2).trans rfl
  have x3 : W.cell? ⟨w.heap.size, 3, none⟩ = some (.slice A3 L.length c3) := (blk_cell hx4.out 3).trans rfl
  have y1 : W.cell? ⟨w.heap.size + 1, 1, none⟩ = some (.int .i64 d.f1) := (blk_cell hy4.out 1).trans rfl
  have y2 : W.cell? ⟨w.heap.size + 1, 2, none⟩ = some (.int .i64 d.f2) := (blk_cell hy4.out 2).trans rfl
  have y4 : W.cell? ⟨w.heap.size + 1, 4, none⟩ = some (.int .u64 d.f4) := (blk_cell hy4.out 4).trans rfl
  have hPn := Aside0.mk (fun n => hP.out (W.drewN n) (hS4.out.below (pw_below_drewN (Below.refl _ W) n)))
  go_region_held3 (fun w' => w'.cell? ⟨w.heap.size, 0, none⟩ = some (.slice A0 own.length c0) ∧ w'.cell? ⟨w.heap.size, 1, none⟩ = some (.slice A1 wh.length c1) ∧ w'.cell? ⟨w.heap.size, 2, none⟩ = some (.int .i64 now) ∧ w'.cell? ⟨w.heap.size, 3, none⟩ = some (.slice A3 L.length c3) ∧ w'.cell? ⟨w.heap.size + 1, 1, none⟩ = some (.int .i64 d.f1) ∧ w'.cell? ⟨w.heap.size + 1, 2, none⟩ = some (.int .i64 d.f2) ∧ w'.cell? ⟨w.heap.size + 1, 4, none⟩ = some (.int .u64 d.f4))
    (first | go_keep | (go_split_ands; refine ⟨?_, ?_, ?_, ?_, ?_, ?_, ?_⟩; (exact p0); (exact p1); (exact p2); (exact p3); (exact p4); (exact p5); (exact p6)))
    (first | (go_at_call 18; refine (hPn.out _).mono ?_; rintro e w5 ⟨rfl, hs5, hf5⟩; have hnr : ∀ k, w.heap.size ≤ k → ¬ (k = a.g ∨ k = a.b) := (fun k hk e => hRn.out k hk (e.elim .inl (fun e => .inr (.inl e)))); have hx5 := hf5.blk (blkd hx4.out) (hnr _ (by omega)); have hy5 := hf5.blk (blkd hy4.out) (hnr _ (by omega)); have hz5 := hf5.blk (blkd hz4.out) (hnr _ (by omega)); have p0 : w5.cell? ⟨w.heap.size, 0, none⟩ = some (.slice A0 own.length c0) := (blk_cell hx5 0).trans rfl; have p1 : w5.cell? ⟨w.heap.size, 1, none⟩ = some (.slice A1 wh.length c1) := (blk_cell hx5 1).trans rfl; have p2 : w5.cell? ⟨w.heap.size, 2, none⟩ = some (.int .i64 now) := (blk_cell hx5 2).trans rfl; have p3 : w5.cell? ⟨w.heap.size, 3, none⟩ = some (.slice A3 L.length c3) := (blk_cell hx5 3).trans rfl; have p4 : w5.cell? ⟨w.heap.size + 1, 1, none⟩ = some (.int .i64 d.f1) := (blk_cell hy5 1).trans rfl; have p5 : w5.cell? ⟨w.heap.size + 1, 2, none⟩ = some (.int .i64 d.f2) := (blk_cell hy5 2).trans rfl; have p6 : w5.cell? ⟨w.heap.size + 1, 4, none⟩ = some (.int .u64 d.f4) := (blk_cell hy5 4).trans rfl; have z0 : w5.cell? ⟨w.heap.size + 1 + 1, 0, none⟩ = some (.slice none 0 0) := (blk_cell hz5 0).trans rfl; have z1 : w5.cell? ⟨w.heap.size + 1 + 1, 1, none⟩ = some (.slice none 0 0) := (blk_cell hz5 1).trans rfl; have z2 : w5.cell? ⟨w.heap.size + 1 + 1, 2, none⟩ = some (.int .i64 0) := (blk_cell hz5 2).trans rfl; have z3 : w5.cell? ⟨w.heap.size + 1 + 1, 3, none⟩ = some (.slice none 0 0) := (blk_cell hz5 3).trans rfl; have zf := fun j => blk_frozen hz5 j; have HZ := Aside0.mk (st4_blk hz5 (.slice A0 own.length c0) (.slice A1 wh.length c1) (.int .i64 now) (.slice A3 L.length c3)); replace hs5 := Aside0.mk hs5; replace hf5 := Aside0.mk hf5; clear hx5 hy5 hz5 hnr))
  go_wp2
  refine bodyPost_ret (results_row2 rfl _ _ (w.heap.size + 1 + 1) 57 _ (0, 0) _ rfl HZ.out.1 Try.underlying57 (by kernel_rfl)) rfl ?_
  exact Did.of (ST.done (hT4.out.drewN _) hs5.out (hX4.out.below (pw_below_drewN (Below.refl _ W) _)) (below_step hB4.out (pw_below_drewN (Below.refl _ W) _)) hf5.out (fun k e => e.elim .inl (fun e => .inr (.inl e))) (fun k h => .inl h) hge.out (h.out.pi.more (by have := hc.out; have := hi.out; omega)) (by have := hnl.out; omega) (by have := hnl.out; omega) hc.out.1 (by have := hi.out; omega) HZ.out.2 (by omega) (by omega) (blk_lt (blkd hz4.out)) hgt.out (hRn.out _ (by omega))) rfl ⟨rfl, rfl⟩

set_option maxHeartbeats 16000000 in
set_option maxRecDepth 100000 in
theorem step_setword_no {w0 w : World} {a : RA} {own F : List Int} {t : Int} {B : List Int} {q : Int} {wh : List Int} {now : Int} {L : List S83} {A0 A1 A3 : Option Addr} {c0 c1 c3 m i : Nat} (h : ST w0 w a own F t B q wh now L (.slice A0 own.length c0) (.slice A1 wh.length c1) (.slice A3 L.length c3) m i) (hi : i < 60)
    (d : S26) (A5 : Option Addr) (c5 : Nat) (hD : DeedWf d) (hDC : Kd.C (Kd.int .u8) w0 A5 d.f5.length d.f5) (hDc : d.f5.length ≤ c5) (hk : d.f0 = 4) (h0 : 0 ≤ d.f2) (h5 : d.f2 < 512) (hp : ¬ pk own d.f1 0 1) :
    Calls Try.prog 21 #[.pointer (some ⟨a.g, 0, none⟩), .agg #[.slice A0 own.length c0, .slice A1 wh.length c1, .int .i64 now, .slice A3 L.length c3], .agg #[.int .i64 d.f0, .int .i64 d.f1, .int .i64 d.f2, .int .i64 d.f3, .int .u64 d.f4, .slice A5 d.f5.length c5]] w fun e w' => Did w0 w a (.slice A0 own.length c0) (.slice A1 wh.length c1) q m (i + 1) e w' := by
  obtain ⟨W1, hW1⟩ : ∃ W1, W1 = ((w.alloc (C57 (.slice A0 own.length c0) (.slice A1 wh.length c1) now (.slice A3 L.length c3))).alloc (C26 d.f0 d.f1 d.f2 d.f3 d.f4 A5 d.f5.length c5)).alloc (C57 (.slice none 0 0) (.slice none 0 0) 0 (.slice none 0 0)) := ⟨_, rfl⟩
  have hb1 := below_alloc (below_alloc (below_alloc (Below.refl w.heap.size w) (C57 (.slice A0 own.length c0) (.slice A1 wh.length c1) now (.slice A3 L.length c3))) (C26 d.f0 d.f1 d.f2 d.f3 d.f4 A5 d.f5.length c5)) (C57 (.slice none 0 0) (.slice none 0 0) 0 (.slice none 0 0))
  have hx1 := blk_alloc (blk_alloc (blk_new w (C57 (.slice A0 own.length c0) (.slice A1 wh.length c1) now (.slice A3 L.length c3))) (C26 d.f0 d.f1 d.f2 d.f3 d.f4 A5 d.f5.length c5)) (C57 (.slice none 0 0) (.slice none 0 0) 0 (.slice none 0 0))
  have hy1 := blk_alloc (blk_new (w.alloc (C57 (.slice A0 own.length c0) (.slice A1 wh.length c1) now (.slice A3 L.length c3))) (C26 d.f0 d.f1 d.f2 d.f3 d.f4 A5 d.f5.length c5)) (C57 (.slice none 0 0) (.slice none 0 0) 0 (.slice none 0 0))
  have hz1 := blk_new ((w.alloc (C57 (.slice A0 own.length c0) (.slice A1 wh.length c1) now (.slice A3 L.length c3))).alloc (C26 d.f0 d.f1 d.f2 d.f3 d.f4 A5 d.f5.length c5)) (C57 (.slice none 0 0) (.slice none 0 0) 0 (.slice none 0 0))
  rw [World.size_alloc] at hy1
  rw [World.size_alloc, World.size_alloc] at hz1
  rw [← hW1] at hb1 hx1 hy1 hz1
  have hgw := (h.rs.own_lt a.g (.inl rfl)).2
  have h1 := h.below hb1
  obtain ⟨bx, hbx⟩ : ∃ bx, bx = w.heap.size := ⟨_, rfl⟩
  obtain ⟨W, hW⟩ : ∃ W, W = W1 := ⟨_, rfl⟩
  have x0 : W.cell? ⟨w.heap.size, 0, none⟩ = some (.slice A0 own.length c0) := by rw [hW]; exact (blk_cell hx1 0).trans rfl
  have x1 : W.cell? ⟨w.heap.size, 1, none⟩ = some (.slice A1 wh.length c1) := by rw [hW]; exact (blk_cell hx1 1).trans rfl
  have x2 : W.cell? ⟨w.heap.size, 2, none⟩ = some (.int .i64 now) := by rw [hW]; exact (blk_cell hx1 2).trans rfl
  have x3 : W.cell? ⟨w.heap.size, 3, none⟩ = some (.slice A3 L.length c3) := by rw [hW]; exact (blk_cell hx1 3).trans rfl
  have y0 : W.cell? ⟨w.heap.size + 1, 0, none⟩ = some (.int .i64 d.f0) := by rw [hW]; exact (blk_cell hy1 0).trans rfl
  have y1 : W.cell? ⟨w.heap.size + 1, 1, none⟩ = some (.int .i64 d.f1) := by rw [hW]; exact (blk_cell hy1 1).trans rfl
  have y2 : W.cell? ⟨w.heap.size + 1, 2, none⟩ = some (.int .i64 d.f2) := by rw [hW]; exact (blk_cell hy1 2).trans rfl
  have y3 : W.cell? ⟨w.heap.size + 1, 3, none⟩ = some (.int .i64 d.f3) := by rw [hW]; exact (blk_cell hy1 3).trans rfl
  have y4 : W.cell? ⟨w.heap.size + 1, 4, none⟩ = some (.int .u64 d.f4) := by rw [hW]; exact (blk_cell hy1 4).trans rfl
  have y5 : W.cell? ⟨w.heap.size + 1, 5, none⟩ = some (.slice A5 d.f5.length c5) := by rw [hW]; exact (blk_cell hy1 5).trans rfl
  have hWW := Aside0.mk (hW.trans hW1)
  rw [← hW] at hb1 hx1 hy1 hz1 h1
  clear hW1 hW
  clear W1
  have hX := Aside0.mk ((h.xf.at (Q' := Qb a w.heap.size) (Nat.le_refl _) (fun k hk => hk.imp id (fun e => e.1))).below hb1)
  have hR1 := Aside0.mk h1.rs
  have hQ1 := Aside0.mk (show ∀ k, Qb a w.heap.size k → k < W.heap.size from fun k hk => by
    rcases hk with e | e
    · exact (h1.rs.own_lt k e).2
    · have := blk_lt hz1; omega)
  have hRn := Aside0.mk (show ∀ k, w.heap.size ≤ k → ¬ Rown a k from fun k hk hr => by have := (h.rs.own_lt k hr).2; omega)
  have hgt := Aside0.mk h.bel.size
  have hge := Aside0.mk (fun k hk => (h.rs.own_lt k hk).1)
  have hnl := Aside0.mk (And.intro h.now h.len)
  replace hb1 := Aside0.mk hb1
  replace hx1 := Aside0.mk hx1
  replace hy1 := Aside0.mk hy1
  replace hz1 := Aside0.mk hz1
  replace h1 := Aside0.mk h1
  replace hgw := Aside0.mk hgw
  have hc := Aside0.mk (And.intro h.m96 h.i60)
  have hol := Aside0.mk h.own_len
  replace hDC := Aside0.mk hDC
  replace hDc := Aside0.mk hDc
  replace hD := Aside0.mk hD
  replace hi := Aside0.mk hi
  replace h := Aside0.mk h
  have hR0 := Kd.R_reads' hX.out.r0
  have hR1' := Kd.R_reads' hX.out.r1
  have hV := Kd.V_reads' hX.out.r3
  have hpw : ¬ pw own d.f1 d.f2 := fun e => hp e.2
  have hTh := gunnyref06_There.calls A0 c0 own A1 c1 wh now A3 c3 L d.f1 0 1 _ W hR0.2.2 hR0.2.1 hR1'.2.2 hR1'.2.1 hV.2.2 hV.2.1 (There_some own wh now L (by have := hol.out.1; have := hc.out.1; omega) d.f1 0 1 (by omega))
  rw [decide_eq_false hp] at hTh
  replace hTh := Aside0.mk hTh
  have g1 : decide (d.f2 ≥ 0) = true := decide_eq_true h0
  have g1' : decide (0 ≤ d.f2) = true := decide_eq_true h0
  have g2 : decide (d.f2 < 512) = true := decide_eq_true h5
  have hx64 : 0 ≤ d.f4 ∧ d.f4 < 18446744073709551616 := by have := bounds_u64 hD.out.2.2.2.2.1; omega
  have hP := fun W (hW : RS W w0.heap.size a ⟨own, F, t, B, q⟩) => setword_q w0.heap.size a own F t B q d.f1 d.f2 d.f4 W hW h.out.gd hx64.1 hx64.2
  have hq : qn q (pw own d.f1 d.f2) = q := if_neg hpw
  simp only [decide_eq_false hpw, hq, if_neg hpw] at hP
  replace hP := Aside0.mk hP
  have hgne : ¬ a.g = w.heap.size + 1 + 1 := by have := hgw.out; omega
  have hgne2 : ¬ w.heap.size + 1 + 1 = a.g := by omega
  have hzx : ¬ w.heap.size = w.heap.size + 1 + 1 := by omega
  have hzx2 : ¬ w.heap.size + 1 + 1 = w.heap.size := by omega
  clear hR0 hR1' hV hq hp hpw hx64 h0 h5
  have e0 : (d.f0 == 0) = false := beq_eq_false_iff_ne.mpr (by omega)
  have e1 : (d.f0 == 1) = false := beq_eq_false_iff_ne.mpr (by omega)
  have e2 : (d.f0 == 2) = false := beq_eq_false_iff_ne.mpr (by omega)
  have e3 : (d.f0 == 3) = false := beq_eq_false_iff_ne.mpr (by omega)
  have e4 : (d.f0 == 4) = true := beq_iff_eq.mpr hk
  clear hk
  go_enter Try.func21, Try.ntmps21
  go_upto_region 1 with (fail)
  rw [← hWW.out]
  go_upto_region 23 with (go_at_call 36; refine hTh.out.mono ?_; rintro e w2 ⟨rfl, hb2⟩; replace hb2 := Aside0.mk hb2)
  clear x0 x1 x2 x3 y0 y1 y2 y3 y4 y5
  have y0 : w2.cell? ⟨w.heap.size + 1, 0, none⟩ = some (.int .i64 d.f0) := (blk_cell (blk_below hy1.out hb2.out) 0).trans rfl
  go_upto_region 26 with (fail)
  clear y0
  have hx4 := Aside0.mk (blk_below hx1.out hb2.out)
  have hy4 := Aside0.mk (blk_below hy1.out hb2.out)
  have hz4 := Aside0.mk (blk_below hz1.out hb2.out)
  have hX4 := Aside0.mk (hX.out.below hb2.out)
  have hS4 := Aside0.mk (hR1.out.below hb2.out)
  have hB4 := Aside0.mk (below_step h1.out.bel hb2.out)
  have hT4 := Aside0.mk (Far.of_below (S := fun k => some k = (Value.slice A0 own.length c0).ownBlock ∨ some k = (Value.slice A1 wh.length c1).ownBlock) (below_step hb1.out hb2.out))
  have x0 : w2.cell? ⟨w.heap.size, 0, none⟩ = some (.slice A0 own.length c0) := (blk_cell hx4.out 0).trans rfl
  have x1 : w2.cell? ⟨w.heap.size, 1, none⟩ = some (.slice A1 wh.length c1) := (blk_cell hx4.out 1).trans rfl
  have x2 : w2.cell? ⟨w.heap.size, 2, none⟩ = some (.int .i64 now) := (blk_cell hx4.out 2).trans rfl
  have x3 : w2.cell? ⟨w.heap.size, 3, none⟩ = some (.slice A3 L.length c3) := (blk_cell hx4.out 3).trans rfl
  have y1 : w2.cell? ⟨w.heap.size + 1, 1, none⟩ = some (.int .i64 d.f1) := (blk_cell hy4.out 1).trans rfl
  have y2 : w2.cell? ⟨w.heap.size + 1, 2, none⟩ = some (.int .i64 d.f2) := (blk_cell hy4.out 2).trans rfl
  have y4 : w2.cell? ⟨w.heap.size + 1, 4, none⟩ = some (.int .u64 d.f4) := (blk_cell hy4.out 4).trans rfl
  have hPn := Aside0.mk (fun n => hP.out (w2.drewN n) (hS4.out.below (pw_below_drewN (Below.refl _ w2) n)))
  go_region_held3 (fun w' => w'.cell? ⟨w.heap.size, 0, none⟩ = some (.slice A0 own.length c0) ∧ w'.cell? ⟨w.heap.size, 1, none⟩ = some (.slice A1 wh.length c1) ∧ w'.cell? ⟨w.heap.size, 2, none⟩ = some (.int .i64 now) ∧ w'.cell? ⟨w.heap.size, 3, none⟩ = some (.slice A3 L.length c3) ∧ w'.cell? ⟨w.heap.size + 1, 1, none⟩ = some (.int .i64 d.f1) ∧ w'.cell? ⟨w.heap.size + 1, 2, none⟩ = some (.int .i64 d.f2) ∧ w'.cell? ⟨w.heap.size + 1, 4, none⟩ = some (.int .u64 d.f4))
    (first | go_keep | (go_split_ands; refine ⟨?_, ?_, ?_, ?_, ?_, ?_, ?_⟩; (exact p0); (exact p1); (exact p2); (exact p3); (exact p4); (exact p5); (exact p6)))
    (first | (go_at_call 18; refine (hPn.out _).mono ?_; rintro e w5 ⟨rfl, hs5, hf5⟩; have hnr : ∀ k, w.heap.size ≤ k → ¬ (k = a.g ∨ k = a.b) := (fun k hk e => hRn.out k hk (e.elim .inl (fun e => .inr (.inl e)))); have hx5 := hf5.blk (blkd hx4.out) (hnr _ (by omega)); have hy5 := hf5.blk (blkd hy4.out) (hnr _ (by omega)); have hz5 := hf5.blk (blkd hz4.out) (hnr _ (by omega)); have p0 : w5.cell? ⟨w.heap.size, 0, none⟩ = some (.slice A0 own.length c0) := (blk_cell hx5 0).trans rfl; have p1 : w5.cell? ⟨w.heap.size, 1, none⟩ = some (.slice A1 wh.length c1) := (blk_cell hx5 1).trans rfl; have p2 : w5.cell? ⟨w.heap.size, 2, none⟩ = some (.int .i64 now) := (blk_cell hx5 2).trans rfl; have p3 : w5.cell? ⟨w.heap.size, 3, none⟩ = some (.slice A3 L.length c3) := (blk_cell hx5 3).trans rfl; have p4 : w5.cell? ⟨w.heap.size + 1, 1, none⟩ = some (.int .i64 d.f1) := (blk_cell hy5 1).trans rfl; have p5 : w5.cell? ⟨w.heap.size + 1, 2, none⟩ = some (.int .i64 d.f2) := (blk_cell hy5 2).trans rfl; have p6 : w5.cell? ⟨w.heap.size + 1, 4, none⟩ = some (.int .u64 d.f4) := (blk_cell hy5 4).trans rfl; have z0 : w5.cell? ⟨w.heap.size + 1 + 1, 0, none⟩ = some (.slice none 0 0) := (blk_cell hz5 0).trans rfl; have z1 : w5.cell? ⟨w.heap.size + 1 + 1, 1, none⟩ = some (.slice none 0 0) := (blk_cell hz5 1).trans rfl; have z2 : w5.cell? ⟨w.heap.size + 1 + 1, 2, none⟩ = some (.int .i64 0) := (blk_cell hz5 2).trans rfl; have z3 : w5.cell? ⟨w.heap.size + 1 + 1, 3, none⟩ = some (.slice none 0 0) := (blk_cell hz5 3).trans rfl; have zf := fun j => blk_frozen hz5 j; have HZ := Aside0.mk (st4_blk hz5 (.slice A0 own.length c0) (.slice A1 wh.length c1) (.int .i64 now) (.slice A3 L.length c3)); replace hs5 := Aside0.mk hs5; replace hf5 := Aside0.mk hf5; clear hx5 hy5 hz5 hnr))
  go_wp2
  refine bodyPost_ret (results_row2 rfl _ _ (w.heap.size + 1 + 1) 57 _ (0, 0) _ rfl HZ.out.1 Try.underlying57 (by kernel_rfl)) rfl ?_
  exact Did.of (ST.done (hT4.out.drewN _) hs5.out (hX4.out.below (pw_below_drewN (Below.refl _ w2) _)) (below_step hB4.out (pw_below_drewN (Below.refl _ w2) _)) hf5.out (fun k e => e.elim .inl (fun e => .inr (.inl e))) (fun k h => .inl h) hge.out (h.out.pi.more (by have := hc.out; have := hi.out; omega)) (by have := hnl.out; omega) (by have := hnl.out; omega) hc.out.1 (by have := hi.out; omega) HZ.out.2 (by omega) (by omega) (blk_lt (blkd hz4.out)) hgt.out (hRn.out _ (by omega))) rfl ⟨rfl, rfl⟩


end Go.Proofs.Ytoejchlelamhjaa.Hand
