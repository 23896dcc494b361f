/- RamPlays: gunnyref06.Take, walked. -/
import Derived.Test.YtoejchlelamhjaaN2
namespace Go.Proofs.Ytoejchlelamhjaa.Hand
set_option linter.unusedVariables false
set_option linter.unusedSimpArgs false
open Go.RowKit Go.Proofs.Ytoejchlelamhjaa.R Go.Proofs.Ytoejchlelamhjaa.Byt Go.Proofs.YtoejchlelamhjaaW.PrintWords Go.Proofs.YtoejchlelamhjaaW.PrintLast Go.Proofs.YtoejchlelamhjaaW.PrintMore

abbrev C57 (u0 u1 : Value) (now : Int) (u3 : Value) : Obj := .cells #[u0, u1, .int .i64 now, u3] 57 (0, 0)
abbrev C54 (u0 u1 : Value) (now : Int) : Obj := .cells #[u0, u1, .int .i64 now] 54 (0, 0)
theorem less_step (L : List S83) (n : Int) (i : Nat) (h : i < L.length) : less (L.take (i + 1)) n = if L[i].f0 = n then less (L.take i) n else less (L.take i) n ++ [L[i]] := by
  unfold less
  rw [List.take_succ_eq_append_getElem h, List.filter_append]
  by_cases e : L[i].f0 = n
  · rw [if_pos e, List.filter_cons, if_neg (by simp [e])]
    simp
  · rw [if_neg e, List.filter_cons, if_pos (by simp [e])]
    simp
theorem less_length (L : List S83) (n : Int) : (less L n).length ≤ L.length := List.length_filter_le _ _
/-- Element i of what was written: its cells, and what they lead to. -/
theorem V_elem {w : World} {base : Nat} {ok : Nat → Prop} {A : Option Addr} {c : Nat} {L : List S83} (h : Kd.V k83 83 w base ok (.slice A L.length c) L) (i : Nat) (hi : i < L.length) :
    ∃ ad A2 c2, A = some ad ∧ Kd.FK k83 w ok L[i] [.int .i64 L[i].f0, .int .i64 L[i].f1, .slice A2 L[i].f2.length c2] ∧ w.cell? (ad.add (i * 3)) = some (.int .i64 L[i].f0) ∧ w.cell? ⟨(ad.add (i * 3)).block, (ad.add (i * 3)).off + 1, none⟩ = some (.int .i64 L[i].f1) ∧ w.cell? ⟨(ad.add (i * 3)).block, (ad.add (i * 3)).off + 2, none⟩ = some (.slice A2 L[i].f2.length c2) := by
  obtain ⟨hl, hc, hF⟩ := Kd.V_at h
  obtain ⟨ad, cs, rfl, hcl, hK, hcc, _⟩ := Kd.F_get hF z83 (i : Int) (by omega) (by omega)
  rw [Int.toNat_natCast, List.getD_eq_getElem?_getD, List.getElem?_eq_getElem hi] at hK
  obtain ⟨A2, c2, rfl, l2, g2⟩ := k83_open (Kd.FK_now hK)
  rw [Int.toNat_natCast] at hcc
  have h0 : w.cell? (ad.add (i * 3 + 0)) = _ := hcc 0 _ rfl
  have h1 : w.cell? (ad.add (i * 3 + 1)) = _ := hcc 1 _ rfl
  have h2 : w.cell? (ad.add (i * 3 + 2)) = _ := hcc 2 _ rfl
  rw [add_field _ _ 1 (by omega)] at h1
  rw [add_field _ _ 2 (by omega)] at h2
  exact ⟨ad, A2, c2, rfl, hK, h0, h1, h2⟩
theorem results_row2 {fn : Func} {p x y : Tmp} {ty : TypeId} (h : fn.results = #[.cell p ty, .tmp x, .tmp y]) (tmps : Array Value) (w : World) (g : Nat) (t : TypeId) (cs : Array Value) (fr : Nat × Nat) (fs)
    (hp : tmps.getD p undef = .pointer (some ⟨g, 0, none⟩)) (hg : w.heap[g]? = some (.cells cs t fr))
    (hu : Try.prog.underlying ty = some (.struct fs)) (hi : (Try.prog.info? ty).map (·.size) = some cs.size) :
    (results fn tmps).run Try.prog w = .ok (.tuple #[.agg cs, tmps.getD x undef, tmps.getD y undef]) w := by
  have hp' : tmps[p]?.getD undef = .pointer (some ⟨g, 0, none⟩) := by simpa using hp
  simp [results, h, hp', asAddr, run_loadVar_row w g t ty cs fr _ hg hu rfl hi]
/-- A block of four cells, all laid anew. -/
abbrev st4 (w : World) (g : Nat) (a b c d : Value) : World := (((w.setCell ⟨g, 0, none⟩ a).setCell ⟨g, 1, none⟩ b).setCell ⟨g, 2, none⟩ c).setCell ⟨g, 3, none⟩ d
theorem st4_blk {w : World} {g : Nat} {a0 b0 c0 d0 : Value} {T : TypeId} (h : w.heap[g]? = some (.cells #[a0, b0, c0, d0] T (0, 0))) (a b c d : Value) :
    (st4 w g a b c d).heap[g]? = some (.cells #[a, b, c, d] T (0, 0)) ∧ Far (fun k => k = g) w (st4 w g a b c d) := by
  have h1 := blk_put (cs' := #[a, b0, c0, d0]) h 0 a (by simp)
  have h2 := blk_put (cs' := #[a, b, c0, d0]) h1 1 b (by simp)
  have h3 := blk_put (cs' := #[a, b, c, d0]) h2 2 c (by simp)
  have h4 := blk_put (cs' := #[a, b, c, d]) h3 3 d (by simp)
  exact ⟨h4, ((((Far.refl (fun k => k = g) w).set1 0 a).set1 1 b).set1 2 c).set1 3 d⟩
set_option maxHeartbeats 8000000 in
set_option maxRecDepth 100000 in
theorem x6_yes {w0 w : World} {a : RA} {Q : Nat → Prop} {own wh : List Int} {L : List S83} {u0 u1 u3 : Value} {s : RP} (h : XF w w0.heap.size Q own wh L u0 u1 u3) (hs : RS w w0.heap.size a s) (hQ : ∀ k, Q k → k < w.heap.size) (hRQ : ∀ k, Rown a k → Q k) (hB : Below w0.heap.size w0 w) (now owner : Int) {own' wh' : List Int} {now' n : Int} (hr : gunnyref05_Take.f 1001 own wh now owner = some (own', wh', now', n, true)) (hl : L.length ≤ 100) :
    Calls Try.prog 34 #[.agg #[u0, u1, .int .i64 now, u3], .int .i64 owner] w fun e w' => ∃ v0 v1 v3 : Value, e = .returned (.tuple #[.agg #[v0, v1, .int .i64 now', v3], .int .i64 n, .bool true]) ∧ XF w' w0.heap.size Q own' wh' (less L n) v0 v1 v3 ∧ RS w' w0.heap.size a s ∧ Far (fun k_ => some k_ = u0.ownBlock ∨ some k_ = u1.ownBlock) w w' ∧ Below w0.heap.size w0 w' := by
  obtain ⟨A0, c0, A1, c1, A3, c3, e0, e1, e3, _, _, _⟩ := h.reads
  subst e0 e1 e3
  obtain ⟨W1, hW1⟩ : ∃ W1, W1 = (w.alloc (C57 (.slice A0 own.length c0) (.slice A1 wh.length c1) now (.slice A3 L.length c3))).alloc (C57 (.slice none 0 0) (.slice none 0 0) 0 (.slice none 0 0)) := ⟨_, rfl⟩
  have hb1 := below_alloc (below_alloc (Below.refl w.heap.size w) (C57 (.slice A0 own.length c0) (.slice A1 wh.length c1) now (.slice A3 L.length c3))) (C57 (.slice none 0 0) (.slice none 0 0) 0 (.slice none 0 0))
  have hx1 := blk_alloc (blk_new w (C57 (.slice A0 own.length c0) (.slice A1 wh.length c1) now (.slice A3 L.length c3))) (C57 (.slice none 0 0) (.slice none 0 0) 0 (.slice none 0 0))
  have hz1 := blk_new (w.alloc (C57 (.slice A0 own.length c0) (.slice A1 wh.length c1) now (.slice A3 L.length c3))) (C57 (.slice none 0 0) (.slice none 0 0) 0 (.slice none 0 0))
  rw [World.size_alloc] at hz1
  rw [← hW1] at hb1 hx1 hz1
  have hT := Aside0.mk (x_take (h.below hb1) (hs.below hb1) (fun k hk => Nat.lt_of_lt_of_le (hQ k hk) hb1.size) hRQ (below_then hB hB.size hb1) now owner hr)
  have hxB := Aside0.mk hx1
  have hzB := Aside0.mk hz1
  have hb1' := Aside0.mk hb1
  have x0 : W1.cell? ⟨w.heap.size, 0, none⟩ = some (.slice A0 own.length c0) := (blk_cell hx1 0).trans rfl
  have x1 : W1.cell? ⟨w.heap.size, 1, none⟩ = some (.slice A1 wh.length c1) := (blk_cell hx1 1).trans rfl
  have x2 : W1.cell? ⟨w.heap.size, 2, none⟩ = some (.int .i64 now) := (blk_cell hx1 2).trans rfl
  have hW1' := Aside0.mk hW1
  have hsz := Aside0.mk (hs.gt)
  replace h := Aside0.mk h
  replace hs := Aside0.mk hs
  replace hB := Aside0.mk hB
  have hl' := Aside0.mk hl
  replace hQ := Aside0.mk hQ
  replace hRQ := Aside0.mk hRQ
  clear hb1 hx1 hz1 hr hW1 hl
  go_enter Try.func34, Try.ntmps34
  go_upto_region 1 with (fail)
  rw [← hW1'.out]
  go_upto_region 4 with (go_at_call 42; refine hT.out.mono ?_; rintro e w2 ⟨v0, v1, rfl, hX2, hS2, hF2, hB2, hK2⟩; obtain ⟨B0, d0, B1, d1, _, _, f0, f1, _, _, _, _⟩ := hX2.reads; subst f0 f1; replace hX2 := Aside0.mk hX2; replace hS2 := Aside0.mk hS2; replace hF2 := Aside0.mk hF2; replace hB2 := Aside0.mk hB2; replace hK2 := Aside0.mk hK2)
  clear x0 x1 x2 hT
  have hX3 := Aside0.mk (hX2.out.below (below_alloc (Below.refl _ w2) (C54 (.slice B0 own'.length d0) (.slice B1 wh'.length d1) now')))
  have hS3 := Aside0.mk (hS2.out.below (below_alloc (Below.refl _ w2) (C54 (.slice B0 own'.length d0) (.slice B1 wh'.length d1) now')))
  have hF3 := Aside0.mk (hF2.out.then_ (Far.of_below (below_alloc (Below.refl _ w2) (C54 (.slice B0 own'.length d0) (.slice B1 wh'.length d1) now'))))
  have hB3 := Aside0.mk (below_alloc hB2.out (C54 (.slice B0 own'.length d0) (.slice B1 wh'.length d1) now'))
  have hf3 := Aside0.mk (blk_new w2 (C54 (.slice B0 own'.length d0) (.slice B1 wh'.length d1) now'))
  have hnb : ∀ k, W1.heap.size ≤ k + 2 → True := fun _ _ => trivial
  have hx3 := Aside0.mk (blk_alloc (hF2.out.blk hxB.out (fun e => by
    rcases e with e | e
    · exact absurd (Kd.R_typed h.out.r0 _ e.symm) (fun ⟨cs, hc⟩ => by have := blk_lt hc; omega)
    · exact absurd (Kd.R_typed h.out.r1 _ e.symm) (fun ⟨cs, hc⟩ => by have := blk_lt hc; omega))) (C54 (.slice B0 own'.length d0) (.slice B1 wh'.length d1) now'))
  have hz3 := Aside0.mk (blk_alloc (hF2.out.blk hzB.out (fun e => by
    rcases e with e | e
    · exact absurd (Kd.R_typed h.out.r0 _ e.symm) (fun ⟨cs, hc⟩ => by have := blk_lt hc; omega)
    · exact absurd (Kd.R_typed h.out.r1 _ e.symm) (fun ⟨cs, hc⟩ => by have := blk_lt hc; omega))) (C54 (.slice B0 own'.length d0) (.slice B1 wh'.length d1) now'))
  have hgf := Aside0.mk (blk_lt hf3.out)
  obtain ⟨gf, hgf2⟩ : ∃ gf, gf = w2.heap.size := ⟨_, rfl⟩
  rw [← hgf2] at hf3 ⊢
  replace hgf2 := Aside0.mk hgf2
  clear hX2 hS2 hF2 hB2 hnb hxB hzB
  generalize w2.alloc (C54 (.slice B0 own'.length d0) (.slice B1 wh'.length d1) now') = w3 at hX3 hS3 hF3 hB3 hf3 hx3 hz3 hgf ⊢
  have hV := Aside0.mk (fun (W : World) (hb : Below w3.heap.size w3 W) => Kd.V_step (w1 := W) (Kd.V_bound h.out.r3) (fun k hk hlt => by
    have h1 := hb1'.out.size
    have h2 := hF3.out.size
    exact (hb.block k (by omega)).trans ((hF3.out.block k (by omega) (fun e => e.elim hk.1.2.1 hk.1.2.2)).trans (hb1'.out.block k hlt))))
  have hv01 := Aside0.mk (fun k (hk : (¬ Q k ∧ some k ≠ (Value.slice A0 own.length c0).ownBlock ∧ some k ≠ (Value.slice A1 wh.length c1).ownBlock) ∧ k < w.heap.size) => (show ¬ Q k ∧ some k ≠ (Value.slice B0 own'.length d0).ownBlock ∧ some k ≠ (Value.slice B1 wh'.length d1).ownBlock ∧ k ≠ w.heap.size + 1 by
    have h1 := hb1'.out.size
    have hno : ¬ (some k = (Value.slice B0 own'.length d0).ownBlock ∨ some k = (Value.slice B1 wh'.length d1).ownBlock) := fun e => by
      rcases hK2.out k e with (e | e) | e
      · exact hk.1.2.1 e
      · exact hk.1.2.2 e
      · have := hk.2; omega
    exact ⟨hk.1.1, fun e => hno (.inl e), fun e => hno (.inr e), by have := hk.2; omega⟩))
  have hfr := Aside0.mk (fun k (hk : w3.heap.size ≤ k) => (show ¬ Q k ∧ some k ≠ (Value.slice B0 own'.length d0).ownBlock ∧ some k ≠ (Value.slice B1 wh'.length d1).ownBlock ∧ k ≠ w.heap.size + 1 from
    ⟨fun hr => by have := hQ.out k hr; have := hb1'.out.size; have := hF3.out.size; omega, fun e => by have := Kd.R_lt hX3.out.r0 k e.symm; omega, fun e => by have := Kd.R_lt hX3.out.r1 k e.symm; omega, by have := blk_lt hz3.out; omega⟩))
  go_wp2
  go_loopg [10, 11] L.length (fun kq v10 v11 w' => ∃ (i : Nat) (A : Option Addr) (c : Nat), v10 = .slice A (less (L.take i) n).length c ∧ v11 = .int .i64 (i : Int) ∧ Aside0 (i + kq = L.length) ∧ Aside0 (Kd.N k83 83 w' w3.heap.size (fun k => ¬ Q k ∧ some k ≠ (Value.slice B0 own'.length d0).ownBlock ∧ some k ≠ (Value.slice B1 wh'.length d1).ownBlock ∧ k ≠ w.heap.size + 1) (.slice A (less (L.take i) n).length c) (less (L.take i) n)) ∧ Aside0 (Below w3.heap.size w3 w'))
  case atStart => exact ⟨0, none, 0, rfl, rfl, ⟨by omega⟩, ⟨Kd.N_nil _ _ _ _ _⟩, ⟨Below.refl _ _⟩⟩
  case round =>
    obtain ⟨i, A, c, rfl, rfl, HI, HN, HB⟩ := hrel
    have y3 : wr.cell? ⟨w.heap.size, 3, none⟩ = some (.slice A3 L.length c3) := (blk_cell (blk_below hx3.out HB.out) 3).trans rfl
    cases gk with
    | zero =>
      have e1 : decide ((i : Int) < (L.length : Int)) = false := decide_eq_false (by have := HI.out; omega)
      have e2 : decide (i < L.length) = false := decide_eq_false (by have := HI.out; omega)
      have f3 := blk_below hf3.out HB.out
      have z3 := blk_below hz3.out HB.out
      have f0 : wr.cell? ⟨gf, 0, none⟩ = some (.slice B0 own'.length d0) := (blk_cell f3 0).trans rfl
      have f1 : wr.cell? ⟨gf, 1, none⟩ = some (.slice B1 wh'.length d1) := (blk_cell f3 1).trans rfl
      have f2 : wr.cell? ⟨gf, 2, none⟩ = some (.int .i64 now') := (blk_cell f3 2).trans rfl
      have z0 : wr.cell? ⟨w.heap.size + 1, 0, none⟩ = some (.slice none 0 0) := (blk_cell z3 0).trans rfl
      have z1 : wr.cell? ⟨w.heap.size + 1, 1, none⟩ = some (.slice none 0 0) := (blk_cell z3 1).trans rfl
      have z2 : wr.cell? ⟨w.heap.size + 1, 2, none⟩ = some (.int .i64 0) := (blk_cell z3 2).trans rfl
      have z3' : wr.cell? ⟨w.heap.size + 1, 3, none⟩ = some (.slice none 0 0) := (blk_cell z3 3).trans rfl
      have zf := fun j => blk_frozen z3 j
      have HZ := Aside0.mk (st4_blk z3 (.slice B0 own'.length d0) (.slice B1 wh'.length d1) (.int .i64 now') (.slice A (less (L.take i) n).length c))
      have hz3w := Aside0.mk z3
      clear f3 z3
      go_wp2
      refine bodyPost_ret (results_row2 rfl _ _ (w.heap.size + 1) 57 _ (0, 0) _ rfl HZ.out.1 Try.underlying57 (by kernel_rfl)) rfl ?_
      have hiL : L.take i = L := List.take_of_length_le (by have := HI.out; omega)
      have hXr := hX3.out.below HB.out
      have hSr := hS3.out.below HB.out
      have hzn : ¬ Rown a (w.heap.size + 1) := fun hr => by have := (hs.out.own_lt _ hr).2; omega
      have hZf := HZ.out.2
      rw [hiL] at HN hZf ⊢
      have q0 := Kd.R_types hXr.r0 hz3w.out (by decide)
      have q1 := Kd.R_types hXr.r1 hz3w.out (by decide)
      refine ⟨_, _, _, rfl, ⟨Kd.R_mono (Kd.R_step q0 (fun k hk hlt => hZf.block k hlt hk.2)) (fun k hk => hk.1), Kd.R_mono (Kd.R_step q1 (fun k hk hlt => hZf.block k hlt hk.2)) (fun k hk => hk.1), ?_⟩, hSr.stay hZf (fun k hr e => hzn (by rw [← e]; exact hr)), ?_, ?_⟩
      · exact Kd.V_mono (Kd.N_V (Kd.N_step HN.out (fun k hk hlt => hZf.block k hlt hk.2.2.2))) (fun k hk => ⟨hk.1, hk.2.1, hk.2.2.1⟩)
      · exact (((Far.of_below hb1'.out).then_ (hF3.out.trans (Far.of_below (S := fun _ => False) HB.out) (fun _ h => h.elim))).trans hZf (fun k hk => .inr (by omega)))
      · exact (hB3.out.trans (HB.out.mono (by have := hB3.out.size; omega))).trans (hZf.below (B := w0.heap.size) (by have := hB3.out.size; have := HB.out.size; omega) (fun k hk => by have := hB.out.size; omega))
    | succ k =>
      have hi : i < L.length := by have := HI.out; omega
      have e1 : decide ((i : Int) < (L.length : Int)) = true := decide_eq_true (by omega)
      have e2 : decide (i < L.length) = true := decide_eq_true hi
      have hi0 : (0 : Int) ≤ (i : Int) := by omega
      have hi1 : (i : Int) < (L.length : Int) := by omega
      obtain ⟨ad, A5, c5, rfl, hFK, g0, g1, g2⟩ := V_elem (hV.out wr HB.out) i hi
      have ws := Aside0.mk (w64s i (by have := hl'.out; omega))
      have hst := less_step L n i hi
      by_cases hn : L[i].f0 = n
      · rw [if_pos hn] at hst
        have b1 : (L[i].f0 != n) = false := by simp [hn]
        have b2 : (L[i].f0 == n) = true := by simp [hn]
        replace hst := Aside0.mk hst
        replace hFK := Aside0.mk hFK
        clear hn
        go_wp2
        go_roundg k
        case measure => omega
        case rel => exact ⟨i + 1, A, c, by rw [hst.out], by first | rw [ws.out] | rfl, ⟨by have := HI.out; omega⟩, ⟨by rw [hst.out]; exact HN.out⟩, HB⟩
      · rw [if_neg hn] at hst
        have b1 : (L[i].f0 != n) = true := by simp [hn]
        have b2 : (L[i].f0 == n) = false := by simp [hn]
        have hlen := Aside0.mk (show ((less (L.take i) n).length + 1) * 40 ≤ 140737488355328 by have h1 := less_length (L.take i) n; rw [List.length_take] at h1; have := hl'.out; omega)
        replace hst := Aside0.mk hst
        replace hFK := Aside0.mk hFK
        clear hn
        go_wp2_with (first | ((with_reducible refine gate_builtin (b := .append) (xs := #[.tmp 38, .tmp 44]) rfl ?_); at_builtin; refine Kd.N_append k83 (w0 := w3) w3.heap.size rfl (.tmp 38) (.tmp 44) 55 83 (.agg #[.int .i64 0, .int .i64 0, .slice none 0 0]) 40 rfl Try.underlying55 info83 rfl (by decide) (by decide) (.slice A (less (L.take i) n).length c) (less (L.take i) n) L[i] [.int .i64 L[i].f0, .int .i64 L[i].f1, .slice A5 L[i].f2.length c5] (fun k => ¬ Q k ∧ some k ≠ (Value.slice B0 own'.length d0).ownBlock ∧ some k ≠ (Value.slice B1 wh'.length d1).ownBlock ∧ k ≠ w.heap.size + 1) (fun k => (¬ Q k ∧ some k ≠ (Value.slice A0 own.length c0).ownBlock ∧ some k ≠ (Value.slice A1 wh.length c1).ownBlock) ∧ k < w.heap.size) rfl rfl hFK.out (fun k hk => ⟨hv01.out k hk, fun e => absurd (Kd.N_base HN.out k e.symm) (by have h1 := hb1'.out.size; have h2 := hF3.out.size; have h3 := hk.2; omega)⟩) (fun k hk => hfr.out k (by have := HB.out.size; omega)) HN.out HB.out (below_size HB.out) hlen.out ?_; intro v1 w8 ho hb hg hat; obtain ⟨A8, c8, e7⟩ := Kd.N_slice ho; replace ho := Aside0.mk ho; replace hb := Aside0.mk hb; clear hat hg; subst e7))
        go_roundg k
        case measure => omega
        case rel => exact ⟨i + 1, A8, c8, by rw [hst.out, List.length_append]; rfl, by first | rw [ws.out] | rfl, ⟨by have := HI.out; omega⟩, ⟨by rw [hst.out]; exact ho.out⟩, hb⟩

end Go.Proofs.Ytoejchlelamhjaa.Hand
