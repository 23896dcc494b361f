/- RamPlays: SetWord of a word that may be, walked (written by mkN6.py). -/
import Derived.Test.YtoejchlelamhjaaN6
import Derived.Deep.RegionLaw
namespace Go.Proofs.Ytoejchlelamhjaa.Hand
set_option linter.unusedVariables false
set_option linter.unusedSimpArgs false
open Go.RowKit Go.Proofs.Ytoejchlelamhjaa.R Go.Proofs.Ytoejchlelamhjaa.Byt Go.Proofs.YtoejchlelamhjaaW.PrintWords Go.Proofs.YtoejchlelamhjaaW.PrintLast Go.Proofs.YtoejchlelamhjaaW.PrintMore

set_option maxHeartbeats 16000000 in
set_option maxRecDepth 100000 in
theorem step_setword_yes {w0 w : World} {a : RA} {own F : List Int} {t : Int} {B : List Int} {q : Int} {wh : List Int} {now : Int} {L : List S83} {A0 A1 A3 : Option Addr} {c0 c1 c3 m i : Nat} (h : ST w0 w a own F t B q wh now L (.slice A0 own.length c0) (.slice A1 wh.length c1) (.slice A3 L.length c3) m i) (hi : i < 60)
    (d : S26) (A5 : Option Addr) (c5 : Nat) (hD : DeedWf d) (hDC : Kd.C (Kd.int .u8) w0 A5 d.f5.length d.f5) (hDc : d.f5.length ≤ c5) (hk : d.f0 = 4) (hp : pw own d.f1 d.f2) :
    Calls Try.prog 21 #[.pointer (some ⟨a.g, 0, none⟩), .agg #[.slice A0 own.length c0, .slice A1 wh.length c1, .int .i64 now, .slice A3 L.length c3], .agg #[.int .i64 d.f0, .int .i64 d.f1, .int .i64 d.f2, .int .i64 d.f3, .int .u64 d.f4, .slice A5 d.f5.length c5]] w fun e w' => Did w0 w a (.slice A0 own.length c0) (.slice A1 wh.length c1) q m (i + 1) e w' := by
  obtain ⟨W1, hW1⟩ : ∃ W1, W1 = ((w.alloc (C57 (.slice A0 own.length c0) (.slice A1 wh.length c1) now (.slice A3 L.length c3))).alloc (C26 d.f0 d.f1 d.f2 d.f3 d.f4 A5 d.f5.length c5)).alloc (C57 (.slice none 0 0) (.slice none 0 0) 0 (.slice none 0 0)) := ⟨_, rfl⟩
  have hb1 := below_alloc (below_alloc (below_alloc (Below.refl w.heap.size w) (C57 (.slice A0 own.length c0) (.slice A1 wh.length c1) now (.slice A3 L.length c3))) (C26 d.f0 d.f1 d.f2 d.f3 d.f4 A5 d.f5.length c5)) (C57 (.slice none 0 0) (.slice none 0 0) 0 (.slice none 0 0))
  have hx1 := blk_alloc (blk_alloc (blk_new w (C57 (.slice A0 own.length c0) (.slice A1 wh.length c1) now (.slice A3 L.length c3))) (C26 d.f0 d.f1 d.f2 d.f3 d.f4 A5 d.f5.length c5)) (C57 (.slice none 0 0) (.slice none 0 0) 0 (.slice none 0 0))
  have hy1 := blk_alloc (blk_new (w.alloc (C57 (.slice A0 own.length c0) (.slice A1 wh.length c1) now (.slice A3 L.length c3))) (C26 d.f0 d.f1 d.f2 d.f3 d.f4 A5 d.f5.length c5)) (C57 (.slice none 0 0) (.slice none 0 0) 0 (.slice none 0 0))
  have hz1 := blk_new ((w.alloc (C57 (.slice A0 own.length c0) (.slice A1 wh.length c1) now (.slice A3 L.length c3))).alloc (C26 d.f0 d.f1 d.f2 d.f3 d.f4 A5 d.f5.length c5)) (C57 (.slice none 0 0) (.slice none 0 0) 0 (.slice none 0 0))
  rw [World.size_alloc] at hy1
  rw [World.size_alloc, World.size_alloc] at hz1
  rw [← hW1] at hb1 hx1 hy1 hz1
  have hgw := (h.rs.own_lt a.g (.inl rfl)).2
  have h1 := h.below hb1
  obtain ⟨bx, hbx⟩ : ∃ bx, bx = w.heap.size := ⟨_, rfl⟩
  obtain ⟨W, hW⟩ : ∃ W, W = W1 := ⟨_, rfl⟩
  have x0 : W.cell? ⟨w.heap.size, 0, none⟩ = some (.slice A0 own.length c0) := by rw [hW]; exact (blk_cell hx1 0).trans rfl
  have x1 : W.cell? ⟨w.heap.size, 1, none⟩ = some (.slice A1 wh.length c1) := by rw [hW]; exact (blk_cell hx1 1).trans rfl
  have x2 : W.cell? ⟨w.heap.size, 2, none⟩ = some (.int .i64 now) := by rw [hW]; exact (blk_cell hx1 2).trans rfl
  have x3 : W.cell? ⟨w.heap.size, 3, none⟩ = some (.slice A3 L.length c3) := by rw [hW]; exact (blk_cell hx1 3).trans rfl
  have y0 : W.cell? ⟨w.heap.size + 1, 0, none⟩ = some (.int .i64 d.f0) := by rw [hW]; exact (blk_cell hy1 0).trans rfl
  have y1 : W.cell? ⟨w.heap.size + 1, 1, none⟩ = some (.int .i64 d.f1) := by rw [hW]; exact (blk_cell hy1 1).trans rfl
  have y2 : W.cell? ⟨w.heap.size + 1, 2, none⟩ = some (.int .i64 d.f2) := by rw [hW]; exact (blk_cell hy1 2).trans rfl
  have y3 : W.cell? ⟨w.heap.size + 1, 3, none⟩ = some (.int .i64 d.f3) := by rw [hW]; exact (blk_cell hy1 3).trans rfl
  have y4 : W.cell? ⟨w.heap.size + 1, 4, none⟩ = some (.int .u64 d.f4) := by rw [hW]; exact (blk_cell hy1 4).trans rfl
  have y5 : W.cell? ⟨w.heap.size + 1, 5, none⟩ = some (.slice A5 d.f5.length c5) := by rw [hW]; exact (blk_cell hy1 5).trans rfl
  have hWW := Aside0.mk (hW.trans hW1)
  rw [← hW] at hb1 hx1 hy1 hz1 h1
  clear hW1 hW
  clear W1
  have hX := Aside0.mk ((h.xf.at (Q' := Qb a w.heap.size) (Nat.le_refl _) (fun k hk => hk.imp id (fun e => e.1))).below hb1)
  have hR1 := Aside0.mk h1.rs
  have hQ1 := Aside0.mk (show ∀ k, Qb a w.heap.size k → k < W.heap.size from fun k hk => by
    rcases hk with e | e
    · exact (h1.rs.own_lt k e).2
    · have := blk_lt hz1; omega)
  have hRn := Aside0.mk (show ∀ k, w.heap.size ≤ k → ¬ Rown a k from fun k hk hr => by have := (h.rs.own_lt k hr).2; omega)
  have hgt := Aside0.mk h.bel.size
  have hge := Aside0.mk (fun k hk => (h.rs.own_lt k hk).1)
  have hnl := Aside0.mk (And.intro h.now h.len)
  replace hb1 := Aside0.mk hb1
  replace hx1 := Aside0.mk hx1
  replace hy1 := Aside0.mk hy1
  replace hz1 := Aside0.mk hz1
  replace h1 := Aside0.mk h1
  replace hgw := Aside0.mk hgw
  have hc := Aside0.mk (And.intro h.m96 h.i60)
  have hol := Aside0.mk h.own_len
  replace hDC := Aside0.mk hDC
  replace hDc := Aside0.mk hDc
  replace hD := Aside0.mk hD
  replace hi := Aside0.mk hi
  replace h := Aside0.mk h
  have hR0 := Kd.R_reads' hX.out.r0
  have hR1' := Kd.R_reads' hX.out.r1
  have hV := Kd.V_reads' hX.out.r3
  have hp1 := hp.2
  have h0 := hp.1.1
  have h5 := hp.1.2
  have hpw := hp
  have hTh := gunnyref06_There.calls A0 c0 own A1 c1 wh now A3 c3 L d.f1 0 1 _ W hR0.2.2 hR0.2.1 hR1'.2.2 hR1'.2.1 hV.2.2 hV.2.1 (There_some own wh now L (by have := hol.out.1; have := hc.out.1; omega) d.f1 0 1 (by omega))
  rw [decide_eq_true hp1] at hTh
  replace hTh := Aside0.mk hTh
  have g1 : decide (d.f2 ≥ 0) = true := decide_eq_true h0
  have g1' : decide (0 ≤ d.f2) = true := decide_eq_true h0
  have g2 : decide (d.f2 < 512) = true := decide_eq_true h5
  have hx64 : 0 ≤ d.f4 ∧ d.f4 < 18446744073709551616 := by have := bounds_u64 hD.out.2.2.2.2.1; omega
  have hP := fun W (hW : RS W w0.heap.size a ⟨own, F, t, B, q⟩) => setword_q w0.heap.size a own F t B q d.f1 d.f2 d.f4 W hW h.out.gd hx64.1 hx64.2
  have hq : qn q (pw own d.f1 d.f2) = wrap64 (q + 1) := if_pos hpw
  simp only [decide_eq_true hpw, hq, if_pos hpw] at hP
  have hpk : pk own d.f1 (8 * d.f2) ((le 8 d.f4.toNat).length : Int) := by rw [le_length]; exact pw_pk hpw
  have hpi := Aside0.mk ((h.out.pi.wrq hpk (isBytes.le 8 d.f4.toNat)).more (by have := hc.out; have := hi.out; omega))
  have hw8 : wrap64 (8 * d.f2) = 8 * d.f2 := by unfold wrap64; omega
  have hw8' : IntKind.i64.wrap (8 * d.f2) = 8 * d.f2 := (i64_w _).trans hw8
  have hputf : gunnyref01_Put.f 100 8 d.f4 = some (le 8 d.f4.toNat) := by
    obtain ⟨v, hv⟩ : ∃ v : Nat, d.f4 = (v : Int) := ⟨d.f4.toNat, by omega⟩
    rw [hv, Int.toNat_natCast]
    exact rput 100 8 v (by omega) (by omega) (by omega)
  have hPut := Aside0.mk (fun W => gunnyref01_Put.calls 100 8 d.f4 (le 8 d.f4.toNat) W hputf)
  have hWr := Aside0.mk (fun (W3 W4 : World) (Ap : Option Addr) (cp : Nat) (hb2 : Below W.heap.size W W3) (hb3 : Below W3.heap.size W3 W4) (hr : Kd.R (Kd.int .u8) 5 W4 W3.heap.size (fun _ => True) (.slice Ap (le 8 d.f4.toNat).length cp) (le 8 d.f4.toNat)) => x_write (hX.out.below (below_step hb2 hb3)) (hR1.out.below (below_step hb2 hb3)) (fun k hk => Nat.lt_of_lt_of_le (hQ1.out k hk) (below_step hb2 hb3).size) (fun k e => .inl e) (below_step h1.out.bel (below_step hb2 hb3)) now d.f1 (8 * d.f2) Ap cp (le 8 d.f4.toNat) (Kd.C_kept_own (Kd.R_bound hr) (fun k hk e => by
    have h1 : k < W.heap.size := e.elim (fun e => Kd.R_lt hX.out.r0 k e.symm) (fun e => Kd.R_lt hX.out.r1 k e.symm)
    have h2 := hb2.size
    have h3 := hk.2.1
    omega)) (Kd.R_reads' hr).2.1 (by have := hnl.out.2; have := hc.out.2; omega) (by rw [le_length]; omega))
  replace hw8 := Aside0.mk hw8
  replace hw8' := Aside0.mk hw8'
  clear hpk hputf hp1
  replace hP := Aside0.mk hP
  have hgne : ¬ a.g = w.heap.size + 1 + 1 := by have := hgw.out; omega
  have hgne2 : ¬ w.heap.size + 1 + 1 = a.g := by omega
  have hzx : ¬ w.heap.size = w.heap.size + 1 + 1 := by omega
  have hzx2 : ¬ w.heap.size + 1 + 1 = w.heap.size := by omega
  clear hR0 hR1' hV hq hp hpw hx64 h0 h5
  have e0 : (d.f0 == 0) = false := beq_eq_false_iff_ne.mpr (by omega)
  have e1 : (d.f0 == 1) = false := beq_eq_false_iff_ne.mpr (by omega)
  have e2 : (d.f0 == 2) = false := beq_eq_false_iff_ne.mpr (by omega)
  have e3 : (d.f0 == 3) = false := beq_eq_false_iff_ne.mpr (by omega)
  have e4 : (d.f0 == 4) = true := beq_iff_eq.mpr hk
  clear hk
  go_enter Try.func21, Try.ntmps21
  go_upto_region 1 with (fail)
  rw [← hWW.out]
  go_upto_region 23 with (go_at_call 36; refine hTh.out.mono ?_; rintro e w2 ⟨rfl, hb2⟩; replace hb2 := Aside0.mk hb2)
  clear x0 x1 x2 x3 y0 y1 y2 y3 y4 y5
  have y0 : w2.cell? ⟨w.heap.size + 1, 0, none⟩ = some (.int .i64 d.f0) := (blk_cell (blk_below hy1.out hb2.out) 0).trans rfl
  go_upto_if 164 with (fail)
  clear y0
  go_cut [] (fun wc => ∃ (B0 B1 B3 : Option Addr) (b0 b1 b3 : Nat), Aside0 (wc.heap[w.heap.size]? = some (C57 (.slice B0 own.length b0) (.slice B1 wh.length b1) (now) (.slice B3 (L.length + 1) b3))) ∧ Aside0 (XF wc w0.heap.size (Qb a w.heap.size) own wh (L ++ [⟨d.f1, 8 * d.f2, le 8 d.f4.toNat⟩]) (.slice B0 own.length b0) (.slice B1 wh.length b1) (.slice B3 (L.length + 1) b3)) ∧ Aside0 (RS wc w0.heap.size a ⟨own, F, t, B, q⟩) ∧ Aside0 (Below w0.heap.size w0 wc) ∧ Aside0 (wc.heap[w.heap.size + 1]? = some (C26 d.f0 d.f1 d.f2 d.f3 d.f4 A5 d.f5.length c5)) ∧ Aside0 (wc.heap[w.heap.size + 1 + 1]? = some (C57 (.slice none 0 0) (.slice none 0 0) 0 (.slice none 0 0))) ∧ Aside0 (Far (fun k => some k = (Value.slice A0 own.length c0).ownBlock ∨ some k = (Value.slice A1 wh.length c1).ownBlock) w wc))
  case first =>
    go_upto_region 25 with (fail)
    have hx2 := Aside0.mk (blk_below hx1.out hb2.out)
    have hy2 := Aside0.mk (blk_below hy1.out hb2.out)
    have hz2 := Aside0.mk (blk_below hz1.out hb2.out)
    have x0 : w2.cell? ⟨w.heap.size, 0, none⟩ = some (.slice A0 own.length c0) := (blk_cell hx2.out 0).trans rfl
    have x1 : w2.cell? ⟨w.heap.size, 1, none⟩ = some (.slice A1 wh.length c1) := (blk_cell hx2.out 1).trans rfl
    have x2 : w2.cell? ⟨w.heap.size, 2, none⟩ = some (.int .i64 now) := (blk_cell hx2.out 2).trans rfl
    have x3 : w2.cell? ⟨w.heap.size, 3, none⟩ = some (.slice A3 L.length c3) := (blk_cell hx2.out 3).trans rfl
    have y1 : w2.cell? ⟨w.heap.size + 1, 1, none⟩ = some (.int .i64 d.f1) := (blk_cell hy2.out 1).trans rfl
    have y2 : w2.cell? ⟨w.heap.size + 1, 2, none⟩ = some (.int .i64 d.f2) := (blk_cell hy2.out 2).trans rfl
    have y4 : w2.cell? ⟨w.heap.size + 1, 4, none⟩ = some (.int .u64 d.f4) := (blk_cell hy2.out 4).trans rfl
    have v8 := hw8.out
    have v8' := hw8'.out
    have hnA := Aside0.mk (show ∀ k, w.heap.size ≤ k → k < w.heap.size + 3 → ¬ (some k = (Value.slice A0 own.length c0).ownBlock ∨ some k = (Value.slice A1 wh.length c1).ownBlock) from (fun k hk hk2 e => e.elim (fun e => (hX.out.r0.1 k e.symm).1 (.inr ⟨hk, hk2⟩)) (fun e => (hX.out.r1.1 k e.symm).1 (.inr ⟨hk, hk2⟩))))
    refine wp_region_held_drew (S := (fun w' : World => w'.cell? ⟨w.heap.size + 1, 1, none⟩ = some (.int .i64 d.f1) ∧ w'.cell? ⟨w.heap.size + 1, 2, none⟩ = some (.int .i64 d.f2) ∧ w'.cell? ⟨w.heap.size + 1, 4, none⟩ = some (.int .u64 d.f4))) (by kernel_rfl) ⟨y1, y2, y4⟩ (fun hHeld => ?_)
    refine wpAnyH_take (i := 1) (oi := { dst := some 166, op := Op.fieldAddr 26 (Operand.tmp 5) 1, type := 0, pos := "law.go:69", after := #[], guard := none }) (v := ?_) rfl (by kernel_rfl) (by kernel_rfl) (by kernel_rfl) (fun _ _ _ h => h) (Or.inl ⟨by rfl, ?_⟩) (by assumption) ?_
    rotate_left
    · (intro wq hSw; (try dsimp only at hSw); go_simp; try (with_reducible rfl))
    try simp only [Act.put, List.setIfInBounds_toArray, List.set_cons_zero, List.set_cons_succ]
    refine wpAnyH_take (i := 2) (oi := { dst := some 167, op := Op.load 3 (Operand.tmp 166), type := 3, pos := "law.go:69", after := #[{ on := 1, ground := Ground.data }], guard := none }) (v := ?_) rfl (by kernel_rfl) (by kernel_rfl) (by kernel_rfl) (fun _ _ _ h => h) (Or.inl ⟨by rfl, ?_⟩) (by assumption) ?_
    rotate_left
    · (intro wq hSw; (try dsimp only at hSw); go_simp; try (with_reducible rfl))
    try simp only [Act.put, List.setIfInBounds_toArray, List.set_cons_zero, List.set_cons_succ]
    refine wpAnyH_take (i := 3) (oi := { dst := some 168, op := Op.fieldAddr 26 (Operand.tmp 5) 2, type := 0, pos := "law.go:69", after := #[], guard := none }) (v := ?_) rfl (by kernel_rfl) (by kernel_rfl) (by kernel_rfl) (fun _ _ _ h => h) (Or.inl ⟨by rfl, ?_⟩) (by assumption) ?_
    rotate_left
    · (intro wq hSw; (try dsimp only at hSw); go_simp; try (with_reducible rfl))
    try simp only [Act.put, List.setIfInBounds_toArray, List.set_cons_zero, List.set_cons_succ]
    refine wpAnyH_take (i := 4) (oi := { dst := some 169, op := Op.load 3 (Operand.tmp 168), type := 3, pos := "law.go:69", after := #[{ on := 3, ground := Ground.data }], guard := none }) (v := ?_) rfl (by kernel_rfl) (by kernel_rfl) (by kernel_rfl) (fun _ _ _ h => h) (Or.inl ⟨by rfl, ?_⟩) (by assumption) ?_
    rotate_left
    · (intro wq hSw; (try dsimp only at hSw); go_simp; try (with_reducible rfl))
    try simp only [Act.put, List.setIfInBounds_toArray, List.set_cons_zero, List.set_cons_succ]
    refine wpAnyH_take (i := 5) (oi := { dst := some 170, op := Op.binOp BinOp.mul 3 (Operand.const (Value.int IntKind.i64 8)) (Operand.tmp 169) 3, type := 3, pos := "law.go:69", after := #[{ on := 4, ground := Ground.data }], guard := none }) (v := ?_) rfl (by kernel_rfl) (by kernel_rfl) (by kernel_rfl) (fun _ _ _ h => h) (Or.inl ⟨by rfl, ?_⟩) (by assumption) ?_
    rotate_left
    · (intro wq hSw; (try dsimp only at hSw); go_simp; try (with_reducible rfl))
    try simp only [Act.put, List.setIfInBounds_toArray, List.set_cons_zero, List.set_cons_succ]
    refine wpAnyH_take (i := 6) (oi := { dst := some 171, op := Op.fieldAddr 26 (Operand.tmp 5) 4, type := 0, pos := "law.go:69", after := #[], guard := none }) (v := ?_) rfl (by kernel_rfl) (by kernel_rfl) (by kernel_rfl) (fun _ _ _ h => h) (Or.inl ⟨by rfl, ?_⟩) (by assumption) ?_
    rotate_left
    · (intro wq hSw; (try dsimp only at hSw); go_simp; try (with_reducible rfl))
    try simp only [Act.put, List.setIfInBounds_toArray, List.set_cons_zero, List.set_cons_succ]
    refine wpAnyH_take (i := 7) (oi := { dst := some 172, op := Op.load 23 (Operand.tmp 171), type := 23, pos := "law.go:69", after := #[{ on := 6, ground := Ground.data }], guard := none }) (v := ?_) rfl (by kernel_rfl) (by kernel_rfl) (by kernel_rfl) (fun _ _ _ h => h) (Or.inl ⟨by rfl, ?_⟩) (by assumption) ?_
    rotate_left
    · (intro wq hSw; (try dsimp only at hSw); go_simp; try (with_reducible rfl))
    try simp only [Act.put, List.setIfInBounds_toArray, List.set_cons_zero, List.set_cons_succ]
    refine wpAnyH_ready (rs := [0, 8]) (by kernel_rfl) (by simp) ?_
    refine AllReadyH.cons (o := { dst := some 165, op := Op.load 57 (Operand.tmp 4), type := 57, pos := "law.go:69", after := #[], guard := none }) rfl (fun K hK => ?_) ?_
    ·
      go_simp
      refine hK.out _ _ ?_ (fun hHeld => ?_)
      · exact ⟨y1, y2, y4⟩
      clear hK K
      try simp only [Act.put, List.setIfInBounds_toArray, List.set_cons_zero, List.set_cons_succ]
      refine wpAnyH_ready (rs := [8]) (by kernel_rfl) (by simp) ?_
      refine AllReadyH.cons (o := { dst := some 173, op := Op.call { callee := Callee.value (Operand.func 38), args := #[Operand.const (Value.int IntKind.i64 8), Operand.tmp 172], argTypes := #[3, 23] }, type := 24, pos := "law.go:69", after := #[{ on := 7, ground := Ground.data }], guard := none }) rfl (fun K hK => ?_) ?_
      rotate_left
      · exact AllReadyH.nil
      go_simp
      go_at_call 38
      refine (hPut.out _).mono ?_
      rintro e w3 ⟨v, rfl, hrv, hb3⟩
      obtain ⟨Ap, cp, rfl⟩ := Kd.R_slice hrv
      have hx3 := blk_below (blk_below hx2.out (below_drew (Below.refl _ w2))) hb3
      have hy3 := blk_below (blk_below hy2.out (below_drew (Below.refl _ w2))) hb3
      have hz3 := blk_below (blk_below hz2.out (below_drew (Below.refl _ w2))) hb3
      have x0 : w3.cell? ⟨w.heap.size, 0, none⟩ = some (.slice A0 own.length c0) := (blk_cell hx3 0).trans rfl
      have x1 : w3.cell? ⟨w.heap.size, 1, none⟩ = some (.slice A1 wh.length c1) := (blk_cell hx3 1).trans rfl
      have x2 : w3.cell? ⟨w.heap.size, 2, none⟩ = some (.int .i64 now) := (blk_cell hx3 2).trans rfl
      have x3 : w3.cell? ⟨w.heap.size, 3, none⟩ = some (.slice A3 L.length c3) := (blk_cell hx3 3).trans rfl
      have y1 : w3.cell? ⟨w.heap.size + 1, 1, none⟩ = some (.int .i64 d.f1) := (blk_cell hy3 1).trans rfl
      have y2 : w3.cell? ⟨w.heap.size + 1, 2, none⟩ = some (.int .i64 d.f2) := (blk_cell hy3 2).trans rfl
      have y4 : w3.cell? ⟨w.heap.size + 1, 4, none⟩ = some (.int .u64 d.f4) := (blk_cell hy3 4).trans rfl
      replace hrv := Aside0.mk hrv
      replace hb3 := Aside0.mk hb3
      replace hx3 := Aside0.mk hx3
      replace hy3 := Aside0.mk hy3
      replace hz3 := Aside0.mk hz3
      refine hK.out _ _ ?_ (fun hHeld => ?_)
      · exact ⟨y1, y2, y4⟩
      clear hK K
      try simp only [Act.put, List.setIfInBounds_toArray, List.set_cons_zero, List.set_cons_succ]
      refine wpAnyH_ready (rs := [9]) (by kernel_rfl) (by simp) ?_
      refine AllReadyH.cons (o := { dst := some 174, op := Op.call { callee := Callee.value (Operand.func 37), args := #[Operand.tmp 165, Operand.tmp 167, Operand.tmp 170, Operand.tmp 173], argTypes := #[57, 3, 3, 24] }, type := 57, pos := "law.go:69", after := #[{ on := 0, ground := Ground.data }, { on := 2, ground := Ground.data }, { on := 5, ground := Ground.data }, { on := 8, ground := Ground.data }, { on := 8, ground := Ground.chain }], guard := none }) rfl (fun K hK => ?_) ?_
      rotate_left
      · exact AllReadyH.nil
      go_simp
      go_at_call 37
      refine (hWr.out _ w3 Ap cp (below_step hb2.out (below_drew (Below.refl _ w2))) hb3.out hrv.out).mono ?_
      rintro e w4 ⟨v0, v1, v3, rfl, hX5, hS5, hF5, hB5⟩
      obtain ⟨B0, b0, B1, b1, B3, b3, f0, f1, f3, _, _, _⟩ := hX5.reads
      rw [List.length_append] at f3
      subst f0 f1 f3
      have hx5 := hF5.blk hx3.out (hnA.out _ (by omega) (by omega))
      have hy5 := Aside0.mk (hF5.blk hy3.out (hnA.out _ (by omega) (by omega)))
      have hz5 := Aside0.mk (hF5.blk hz3.out (hnA.out _ (by omega) (by omega)))
      have t0 : w4.cell? ⟨w.heap.size, 0, none⟩ = some (.slice A0 own.length c0) := (blk_cell hx5 0).trans rfl
      have t1 : w4.cell? ⟨w.heap.size, 1, none⟩ = some (.slice A1 wh.length c1) := (blk_cell hx5 1).trans rfl
      have t2 : w4.cell? ⟨w.heap.size, 2, none⟩ = some (.int .i64 now) := (blk_cell hx5 2).trans rfl
      have t3 : w4.cell? ⟨w.heap.size, 3, none⟩ = some (.slice A3 L.length c3) := (blk_cell hx5 3).trans rfl
      have tf := fun j => blk_frozen hx5 j
      replace hx5 := Aside0.mk hx5
      replace hX5 := Aside0.mk hX5
      replace hS5 := Aside0.mk hS5
      replace hB5 := Aside0.mk hB5
      have hT5 := Aside0.mk ((Far.of_below (below_step hb1.out (below_step hb2.out (below_step (below_drew (Below.refl _ w2)) hb3.out)))).then_ hF5)
      clear hF5 x0 x1 x2 x3 y1 y2 y4 hrv hb3 hx3 hy3 hz3
      refine hK.out _ _ ?_ (fun hHeld => ?_)
      · exact ⟨(blk_cell hy5.out 1).trans rfl, (blk_cell hy5.out 2).trans rfl, (blk_cell hy5.out 4).trans rfl⟩
      clear hK K
      try simp only [Act.put, List.setIfInBounds_toArray, List.set_cons_zero, List.set_cons_succ]
      refine wpAnyH_ready (rs := [10]) (by kernel_rfl) (by simp) ?_
      refine AllReadyH.cons (o := { dst := none, op := Op.store 57 (Operand.tmp 4) (Operand.tmp 174), type := 0, pos := "law.go:69", after := #[{ on := 9, ground := Ground.data }, { on := 9, ground := Ground.chain }, { on := 0, ground := Ground.phase }, { on := 1, ground := Ground.phase }, { on := 2, ground := Ground.phase }, { on := 3, ground := Ground.phase }, { on := 4, ground := Ground.phase }, { on := 5, ground := Ground.phase }, { on := 6, ground := Ground.phase }, { on := 7, ground := Ground.phase }, { on := 8, ground := Ground.phase }, { on := 9, ground := Ground.phase }], guard := none }) rfl (fun K hK => ?_) ?_
      rotate_left
      · exact AllReadyH.nil
      go_simp
      obtain ⟨HX4, HW4⟩ := st4_blk hx5.out (.slice B0 own.length b0) (.slice B1 wh.length b1) (.int .i64 now) (.slice B3 (L.length + 1) b3)
      unfold st4 at HX4 HW4
      clear t0 t1 t2 t3 tf
      generalize ((((w4.setCell ⟨w.heap.size, 0, none⟩ (.slice B0 own.length b0)).setCell ⟨w.heap.size, 1, none⟩ (.slice B1 wh.length b1)).setCell ⟨w.heap.size, 2, none⟩ (.int .i64 now)).setCell ⟨w.heap.size, 3, none⟩ (.slice B3 (L.length + 1) b3)) = w6 at HX4 HW4 ⊢
      have hy6 := Aside0.mk (HW4.blk hy5.out (by omega))
      refine hK.out _ _ ?_ (fun hHeld => ?_)
      · exact ⟨(blk_cell hy6.out 1).trans rfl, (blk_cell hy6.out 2).trans rfl, (blk_cell hy6.out 4).trans rfl⟩
      clear hK K
      try simp only [Act.put, List.setIfInBounds_toArray, List.set_cons_zero, List.set_cons_succ]
      refine wpAnyH_done (by kernel_rfl) ?_ _
      go_wp2
      go_meet
      case rel => exact ⟨B0, B1, B3, b0, b1, b3, ⟨HX4⟩, ⟨hX5.out.stay HW4 (fun k e => .inr (by omega))⟩, ⟨hS5.out.stay HW4 (fun k hr e => hRn.out k (by omega) hr)⟩, ⟨hB5.out.trans (HW4.below hB5.out.size (fun k e => by have := hgt.out; omega))⟩, ⟨HW4.blk hy5.out (by omega)⟩, ⟨HW4.blk hz5.out (by omega)⟩, ⟨hT5.out.trans HW4 (fun k e => .inr (by omega))⟩⟩
    ·
      refine AllReadyH.cons (o := { dst := some 173, op := Op.call { callee := Callee.value (Operand.func 38), args := #[Operand.const (Value.int IntKind.i64 8), Operand.tmp 172], argTypes := #[3, 23] }, type := 24, pos := "law.go:69", after := #[{ on := 7, ground := Ground.data }], guard := none }) rfl (fun K hK => ?_) ?_
      rotate_left
      · exact AllReadyH.nil
      go_simp
      go_at_call 38
      refine (hPut.out _).mono ?_
      rintro e w3 ⟨v, rfl, hrv, hb3⟩
      obtain ⟨Ap, cp, rfl⟩ := Kd.R_slice hrv
      have hx3 := blk_below (blk_below hx2.out (below_drew (Below.refl _ w2))) hb3
      have hy3 := blk_below (blk_below hy2.out (below_drew (Below.refl _ w2))) hb3
      have hz3 := blk_below (blk_below hz2.out (below_drew (Below.refl _ w2))) hb3
      have x0 : w3.cell? ⟨w.heap.size, 0, none⟩ = some (.slice A0 own.length c0) := (blk_cell hx3 0).trans rfl
      have x1 : w3.cell? ⟨w.heap.size, 1, none⟩ = some (.slice A1 wh.length c1) := (blk_cell hx3 1).trans rfl
      have x2 : w3.cell? ⟨w.heap.size, 2, none⟩ = some (.int .i64 now) := (blk_cell hx3 2).trans rfl
      have x3 : w3.cell? ⟨w.heap.size, 3, none⟩ = some (.slice A3 L.length c3) := (blk_cell hx3 3).trans rfl
      have y1 : w3.cell? ⟨w.heap.size + 1, 1, none⟩ = some (.int .i64 d.f1) := (blk_cell hy3 1).trans rfl
      have y2 : w3.cell? ⟨w.heap.size + 1, 2, none⟩ = some (.int .i64 d.f2) := (blk_cell hy3 2).trans rfl
      have y4 : w3.cell? ⟨w.heap.size + 1, 4, none⟩ = some (.int .u64 d.f4) := (blk_cell hy3 4).trans rfl
      replace hrv := Aside0.mk hrv
      replace hb3 := Aside0.mk hb3
      replace hx3 := Aside0.mk hx3
      replace hy3 := Aside0.mk hy3
      replace hz3 := Aside0.mk hz3
      refine hK.out _ _ ?_ (fun hHeld => ?_)
      · exact ⟨y1, y2, y4⟩
      clear hK K
      try simp only [Act.put, List.setIfInBounds_toArray, List.set_cons_zero, List.set_cons_succ]
      refine wpAnyH_ready (rs := [0]) (by kernel_rfl) (by simp) ?_
      refine AllReadyH.cons (o := { dst := some 165, op := Op.load 57 (Operand.tmp 4), type := 57, pos := "law.go:69", after := #[], guard := none }) rfl (fun K hK => ?_) ?_
      rotate_left
      · exact AllReadyH.nil
      go_simp
      refine hK.out _ _ ?_ (fun hHeld => ?_)
      · exact ⟨y1, y2, y4⟩
      clear hK K
      try simp only [Act.put, List.setIfInBounds_toArray, List.set_cons_zero, List.set_cons_succ]
      refine wpAnyH_ready (rs := [9]) (by kernel_rfl) (by simp) ?_
      refine AllReadyH.cons (o := { dst := some 174, op := Op.call { callee := Callee.value (Operand.func 37), args := #[Operand.tmp 165, Operand.tmp 167, Operand.tmp 170, Operand.tmp 173], argTypes := #[57, 3, 3, 24] }, type := 57, pos := "law.go:69", after := #[{ on := 0, ground := Ground.data }, { on := 2, ground := Ground.data }, { on := 5, ground := Ground.data }, { on := 8, ground := Ground.data }, { on := 8, ground := Ground.chain }], guard := none }) rfl (fun K hK => ?_) ?_
      rotate_left
      · exact AllReadyH.nil
      go_simp
      go_at_call 37
      refine (hWr.out _ w3 Ap cp (below_step hb2.out (below_drew (Below.refl _ w2))) hb3.out hrv.out).mono ?_
      rintro e w4 ⟨v0, v1, v3, rfl, hX5, hS5, hF5, hB5⟩
      obtain ⟨B0, b0, B1, b1, B3, b3, f0, f1, f3, _, _, _⟩ := hX5.reads
      rw [List.length_append] at f3
      subst f0 f1 f3
      have hx5 := hF5.blk hx3.out (hnA.out _ (by omega) (by omega))
      have hy5 := Aside0.mk (hF5.blk hy3.out (hnA.out _ (by omega) (by omega)))
      have hz5 := Aside0.mk (hF5.blk hz3.out (hnA.out _ (by omega) (by omega)))
      have t0 : w4.cell? ⟨w.heap.size, 0, none⟩ = some (.slice A0 own.length c0) := (blk_cell hx5 0).trans rfl
      have t1 : w4.cell? ⟨w.heap.size, 1, none⟩ = some (.slice A1 wh.length c1) := (blk_cell hx5 1).trans rfl
      have t2 : w4.cell? ⟨w.heap.size, 2, none⟩ = some (.int .i64 now) := (blk_cell hx5 2).trans rfl
      have t3 : w4.cell? ⟨w.heap.size, 3, none⟩ = some (.slice A3 L.length c3) := (blk_cell hx5 3).trans rfl
      have tf := fun j => blk_frozen hx5 j
      replace hx5 := Aside0.mk hx5
      replace hX5 := Aside0.mk hX5
      replace hS5 := Aside0.mk hS5
      replace hB5 := Aside0.mk hB5
      have hT5 := Aside0.mk ((Far.of_below (below_step hb1.out (below_step hb2.out (below_step (below_drew (Below.refl _ w2)) hb3.out)))).then_ hF5)
      clear hF5 x0 x1 x2 x3 y1 y2 y4 hrv hb3 hx3 hy3 hz3
      refine hK.out _ _ ?_ (fun hHeld => ?_)
      · exact ⟨(blk_cell hy5.out 1).trans rfl, (blk_cell hy5.out 2).trans rfl, (blk_cell hy5.out 4).trans rfl⟩
      clear hK K
      try simp only [Act.put, List.setIfInBounds_toArray, List.set_cons_zero, List.set_cons_succ]
      refine wpAnyH_ready (rs := [10]) (by kernel_rfl) (by simp) ?_
      refine AllReadyH.cons (o := { dst := none, op := Op.store 57 (Operand.tmp 4) (Operand.tmp 174), type := 0, pos := "law.go:69", after := #[{ on := 9, ground := Ground.data }, { on := 9, ground := Ground.chain }, { on := 0, ground := Ground.phase }, { on := 1, ground := Ground.phase }, { on := 2, ground := Ground.phase }, { on := 3, ground := Ground.phase }, { on := 4, ground := Ground.phase }, { on := 5, ground := Ground.phase }, { on := 6, ground := Ground.phase }, { on := 7, ground := Ground.phase }, { on := 8, ground := Ground.phase }, { on := 9, ground := Ground.phase }], guard := none }) rfl (fun K hK => ?_) ?_
      rotate_left
      · exact AllReadyH.nil
      go_simp
      obtain ⟨HX4, HW4⟩ := st4_blk hx5.out (.slice B0 own.length b0) (.slice B1 wh.length b1) (.int .i64 now) (.slice B3 (L.length + 1) b3)
      unfold st4 at HX4 HW4
      clear t0 t1 t2 t3 tf
      generalize ((((w4.setCell ⟨w.heap.size, 0, none⟩ (.slice B0 own.length b0)).setCell ⟨w.heap.size, 1, none⟩ (.slice B1 wh.length b1)).setCell ⟨w.heap.size, 2, none⟩ (.int .i64 now)).setCell ⟨w.heap.size, 3, none⟩ (.slice B3 (L.length + 1) b3)) = w6 at HX4 HW4 ⊢
      have hy6 := Aside0.mk (HW4.blk hy5.out (by omega))
      refine hK.out _ _ ?_ (fun hHeld => ?_)
      · exact ⟨(blk_cell hy6.out 1).trans rfl, (blk_cell hy6.out 2).trans rfl, (blk_cell hy6.out 4).trans rfl⟩
      clear hK K
      try simp only [Act.put, List.setIfInBounds_toArray, List.set_cons_zero, List.set_cons_succ]
      refine wpAnyH_done (by kernel_rfl) ?_ _
      go_wp2
      go_meet
      case rel => exact ⟨B0, B1, B3, b0, b1, b3, ⟨HX4⟩, ⟨hX5.out.stay HW4 (fun k e => .inr (by omega))⟩, ⟨hS5.out.stay HW4 (fun k hr e => hRn.out k (by omega) hr)⟩, ⟨hB5.out.trans (HW4.below hB5.out.size (fun k e => by have := hgt.out; omega))⟩, ⟨HW4.blk hy5.out (by omega)⟩, ⟨HW4.blk hz5.out (by omega)⟩, ⟨hT5.out.trans HW4 (fun k e => .inr (by omega))⟩⟩
  case rest =>
    obtain ⟨B0, B1, B3, b0, b1, b3, hx4, hX4, hS4, hB4, hy4, hz4, hT4⟩ := hcut
    go_upto_region 26 with (fail)
    have x0 : wc.cell? ⟨w.heap.size, 0, none⟩ = some (.slice B0 own.length b0) := (blk_cell hx4.out 0).trans rfl
    have x1 : wc.cell? ⟨w.heap.size, 1, none⟩ = some (.slice B1 wh.length b1) := (blk_cell hx4.out 1).trans rfl
    have x2 : wc.cell? ⟨w.heap.size, 2, none⟩ = some (.int .i64 now) := (blk_cell hx4.out 2).trans rfl
    have x3 : wc.cell? ⟨w.heap.size, 3, none⟩ = some (.slice B3 (L.length + 1) b3) := (blk_cell hx4.out 3).trans rfl
    have y1 : wc.cell? ⟨w.heap.size + 1, 1, none⟩ = some (.int .i64 d.f1) := (blk_cell hy4.out 1).trans rfl
    have y2 : wc.cell? ⟨w.heap.size + 1, 2, none⟩ = some (.int .i64 d.f2) := (blk_cell hy4.out 2).trans rfl
    have y4 : wc.cell? ⟨w.heap.size + 1, 4, none⟩ = some (.int .u64 d.f4) := (blk_cell hy4.out 4).trans rfl
    have hPn := Aside0.mk (fun n => hP.out (wc.drewN n) (hS4.out.below (pw_below_drewN (Below.refl _ wc) n)))
    go_region_held3 (fun w' => w'.cell? ⟨w.heap.size, 0, none⟩ = some (.slice B0 own.length b0) ∧ w'.cell? ⟨w.heap.size, 1, none⟩ = some (.slice B1 wh.length b1) ∧ w'.cell? ⟨w.heap.size, 2, none⟩ = some (.int .i64 now) ∧ w'.cell? ⟨w.heap.size, 3, none⟩ = some (.slice B3 (L.length + 1) b3) ∧ w'.cell? ⟨w.heap.size + 1, 1, none⟩ = some (.int .i64 d.f1) ∧ w'.cell? ⟨w.heap.size + 1, 2, none⟩ = some (.int .i64 d.f2) ∧ w'.cell? ⟨w.heap.size + 1, 4, none⟩ = some (.int .u64 d.f4))
      (first | go_keep | (go_split_ands; refine ⟨?_, ?_, ?_, ?_, ?_, ?_, ?_⟩; (exact p0); (exact p1); (exact p2); (exact p3); (exact p4); (exact p5); (exact p6)))
      (first | (go_at_call 18; refine (hPn.out _).mono ?_; rintro e w5 ⟨rfl, hs5, hf5⟩; have hnr : ∀ k, w.heap.size ≤ k → ¬ (k = a.g ∨ k = a.b) := (fun k hk e => hRn.out k hk (e.elim .inl (fun e => .inr (.inl e)))); have hx5 := hf5.blk (blkd hx4.out) (hnr _ (by omega)); have hy5 := hf5.blk (blkd hy4.out) (hnr _ (by omega)); have hz5 := hf5.blk (blkd hz4.out) (hnr _ (by omega)); have p0 : w5.cell? ⟨w.heap.size, 0, none⟩ = some (.slice B0 own.length b0) := (blk_cell hx5 0).trans rfl; have p1 : w5.cell? ⟨w.heap.size, 1, none⟩ = some (.slice B1 wh.length b1) := (blk_cell hx5 1).trans rfl; have p2 : w5.cell? ⟨w.heap.size, 2, none⟩ = some (.int .i64 now) := (blk_cell hx5 2).trans rfl; have p3 : w5.cell? ⟨w.heap.size, 3, none⟩ = some (.slice B3 (L.length + 1) b3) := (blk_cell hx5 3).trans rfl; have p4 : w5.cell? ⟨w.heap.size + 1, 1, none⟩ = some (.int .i64 d.f1) := (blk_cell hy5 1).trans rfl; have p5 : w5.cell? ⟨w.heap.size + 1, 2, none⟩ = some (.int .i64 d.f2) := (blk_cell hy5 2).trans rfl; have p6 : w5.cell? ⟨w.heap.size + 1, 4, none⟩ = some (.int .u64 d.f4) := (blk_cell hy5 4).trans rfl; have z0 : w5.cell? ⟨w.heap.size + 1 + 1, 0, none⟩ = some (.slice none 0 0) := (blk_cell hz5 0).trans rfl; have z1 : w5.cell? ⟨w.heap.size + 1 + 1, 1, none⟩ = some (.slice none 0 0) := (blk_cell hz5 1).trans rfl; have z2 : w5.cell? ⟨w.heap.size + 1 + 1, 2, none⟩ = some (.int .i64 0) := (blk_cell hz5 2).trans rfl; have z3 : w5.cell? ⟨w.heap.size + 1 + 1, 3, none⟩ = some (.slice none 0 0) := (blk_cell hz5 3).trans rfl; have zf := fun j => blk_frozen hz5 j; have HZ := Aside0.mk (st4_blk hz5 (.slice B0 own.length b0) (.slice B1 wh.length b1) (.int .i64 now) (.slice B3 (L.length + 1) b3)); replace hs5 := Aside0.mk hs5; replace hf5 := Aside0.mk hf5; clear hx5 hy5 hz5 hnr))
    go_wp2
    refine bodyPost_ret (results_row2 rfl _ _ (w.heap.size + 1 + 1) 57 _ (0, 0) _ rfl HZ.out.1 Try.underlying57 (by kernel_rfl)) rfl ?_
    exact Did.of (ST.done (hT4.out.drewN _) hs5.out (hX4.out.below (pw_below_drewN (Below.refl _ wc) _)) (below_step hB4.out (pw_below_drewN (Below.refl _ wc) _)) hf5.out (fun k e => e.elim .inl (fun e => .inr (.inl e))) (fun k h => .inl h) hge.out hpi.out (by have := hnl.out; omega) (by rw [List.length_append]; have := hnl.out; show _ + 1 ≤ _; omega) hc.out.1 (by have := hi.out; omega) HZ.out.2 (by omega) (by omega) (blk_lt (blkd hz4.out)) hgt.out (hRn.out _ (by omega))) rfl ⟨rfl, rfl⟩


end Go.Proofs.Ytoejchlelamhjaa.Hand
