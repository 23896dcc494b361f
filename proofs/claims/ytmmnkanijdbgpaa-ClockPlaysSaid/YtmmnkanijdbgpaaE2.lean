/- gunnylaw35.turn: the clock's Turn and the document's, walked by hand (written by genE2.py). -/
import Derived.Test.YtmmnkanijdbgpaaE1
import Derived.Deep.RegionLaw
namespace Go.Proofs.Ytmmnkanijdbgpaa.Hand
set_option linter.unusedVariables false
set_option linter.unusedSimpArgs false
open Go.RowKit Go.Proofs.Ytmmnkanijdbgpaa.R Go.Proofs.YtmmnkanijdbgpaaW.PrintWords Go.Proofs.YtmmnkanijdbgpaaW.PrintLast Go.Proofs.YtmmnkanijdbgpaaW.PrintMore

theorem ints_l0 (l : List Int) (hl : l.length < 9223372036854775807) : ∀ (k i d : Nat), i + d = l.length → d < k → gunnyref02_Ints.l0 k l l (i : Int) = some true
  | 0, _, _, _, h => absurd h (Nat.not_lt_zero _)
  | k + 1, i, 0, h, _ => by
    unfold gunnyref02_Ints.l0
    rw [if_neg (by omega)]
  | k + 1, i, d + 1, h, hk => by
    unfold gunnyref02_Ints.l0
    rw [if_pos (by omega), if_pos (by omega), if_pos (by omega), if_pos rfl, w64s i (by omega)]
    exact ints_l0 l hl k (i + 1) d (by omega) (by omega)
theorem ints_same (l : List Int) (hl : l.length < 9223372036854775807) : gunnyref02_Ints.f (l.length + 1) l l = some true := by
  unfold gunnyref02_Ints.f
  rw [if_pos rfl]
  exact ints_l0 l hl _ 0 l.length (by omega) (by omega)
/-- Two rows of the same numbers are equal. -/
theorem same_calls (l : List Int) (hl : l.length < 9223372036854775807) (A0 : Option Addr) (c0 : Nat) (A1 : Option Addr) (c1 : Nat) (w : World) (h0 : Kd.C (Kd.int .i64) w A0 l.length l) (hc0 : l.length ≤ c0) (h1 : Kd.C (Kd.int .i64) w A1 l.length l) (hc1 : l.length ≤ c1) :
    Calls Try.prog 28 #[.slice A0 l.length c0, .slice A1 l.length c1] w fun e w' => e = .returned (.bool true) ∧ Drawn0 w w' := gunnyref02_Ints.calls (l.length + 1) A0 c0 l A1 c1 l true w h0 hc0 h1 hc1 (ints_same l hl)
theorem yl41 {ops : Array Oper} {S : World → Prop} {o : Oper} {a : Act} (x : Operand) (g : Nat) (P : List Int) (hw : Region.wanted o (yielded ops a.tmps) = true) (ho : o.op = .load 41 x) (hx : a.eval x = .pointer (some ⟨g, 0, none⟩)) (hS : ∀ w, S w → PS w g P) (hP : P.length = 97) : YieldsIf Try.prog ops S o (.agg (ints P)) a :=
  .inl ⟨hw, fun w hw' => by
    unfold execOp
    simp only [ho, hx, Instr.loadAt, Instr.sureAddr, Sem.run_bind, Sem.run_pure, Result.andThen_ok, run_loadVar_row w g 41 41 (ints P) (0, 0) _ (hS w hw') Try.underlying41 rfl (by rw [info41, ints_size, hP])]⟩
theorem rt_none {P : List Int} {S : List Bool} {xs : List Int} {w : World} {e : Ending} {w' : World} (h : RT P S xs w e w') (hx : xs = []) : e = .returned (.tuple #[.agg (ints P), .int .i64 (-1), .slice none 0 0]) ∧ Below w.heap.size w w' := by
  rcases h.of with ⟨_, h1⟩ | ⟨x, r, y, A, c, h1, _⟩
  · exact ⟨h1, h.below⟩
  · rw [hx] at h1; cases h1
/-- The document's Turn that asks somebody. -/
structure RTS (P : List Int) (S : List Bool) (xs : List Int) (x : Int) (w : World) (y : Nat) (A : Option Addr) (c : Nat) (w' : World) : Prop where
  below : Below w.heap.size w w'
  y96 : y < 96
  yx : (y : Int) = (askAll (askS S) nxtS [] (xs ++ xs)).2.getD x
  row : RI w' w.heap.size (fun _ => True) (.slice A (askAll (askS S) nxtS [] (xs ++ xs)).1.length c) (askAll (askS S) nxtS [] (xs ++ xs)).1
theorem rt_some {P : List Int} {S : List Bool} {xs : List Int} {w : World} {e : Ending} {w' : World} (h : RT P S xs w e w') {x : Int} {r : List Int} (hx : xs = x :: r) : ∃ (y : Nat) (A : Option Addr) (c : Nat), e = .returned (.tuple #[.agg (ints (P.set 96 (((y + 1) % 96 : Nat) : Int))), .int .i64 (y : Int), .slice A (askAll (askS S) nxtS [] (xs ++ xs)).1.length c]) ∧ RTS P S xs x w y A c w' := by
  rcases h.of with ⟨h1, _⟩ | ⟨x', r', y, A, c, h1, h2, h3, h4, h5⟩
  · rw [hx] at h1; cases h1
  · rw [h1] at hx
    obtain ⟨rfl, rfl⟩ := List.cons.inj hx
    exact ⟨y, A, c, h4, h.below, h2, h3, h5⟩
theorem nxt_length (S : List Bool) : ∀ (l s : List Int), (askAll (askS S) nxtS s l).1.length ≤ s.length + l.length
  | [], s => Nat.le_refl _
  | f :: l, s => by
    have h := nxt_length S l (nxtS s f)
    unfold askAll
    split
    · unfold nxtS at h ⊢
      rw [List.length_append] at h
      simp only [List.length_cons, List.length_nil] at h ⊢
      omega
    · show (nxtS s f).length ≤ _
      unfold nxtS
      rw [List.length_append]
      simp only [List.length_cons, List.length_nil]
      omega
/-- What gunnylaw35.turn tells. -/
structure TP (g : Nat) (L : List Int) (w : World) (e : Ending) (w' : World) : Prop where
  of : ∃ L', GL L' ∧ L'.getD 97 0 = L.getD 97 0 ∧ e = .returned (.tuple #[.agg (ints (pOf L')), .bool true]) ∧ CS w' g L'
  far : Far (fun k => k = g ∨ w.heap.size ≤ k) w w'
theorem boxD_cells (d : S44) (A3 : Option Addr) (c3 : Nat) (A4 : Option Addr) (c4 : Nat) {w : World} {g : Nat} (h : w.heap[g]? = some (.cells (boxD d A3 c3 A4 c4) 44 (0, 0))) : w.cell? ⟨g, 0, none⟩ = some (.int .i64 d.f0) ∧ w.cell? ⟨g, 1, none⟩ = some (.int .i64 d.f1) ∧ w.cell? ⟨g, 2, none⟩ = some (.int .i64 d.f2) ∧ w.cell? ⟨g, 3, none⟩ = some (.slice A3 d.f3.length c3) ∧ w.cell? ⟨g, 4, none⟩ = some (.slice A4 d.f4.length c4) :=
  ⟨(blk_cell h 0).trans rfl, (blk_cell h 1).trans rfl, (blk_cell h 2).trans rfl, (blk_cell h 3).trans rfl, (blk_cell h 4).trans rfl⟩
set_option maxHeartbeats 16000000 in
set_option maxRecDepth 100000 in
theorem turn_calls (g : Nat) (L : List Int) (hL : GL L) (d : S44) (A3 : Option Addr) (c3 : Nat) (A4 : Option Addr) (c4 : Nat) (w : World) (hb : CS w g L)
    (hS : Kd.C Kd.bool w A3 d.f3.length d.f3) (hSc : d.f3.length ≤ c3) (hB : Kd.C (Kd.int .i64) w A4 d.f4.length d.f4) (hBc : d.f4.length ≤ c4) (hSl : d.f3.length < 1000000) (hBl : d.f4.length < 1000000)
    (hgA : ∀ ad, A3 = some ad → 0 < d.f3.length → ad.block < w.heap.size ∧ ad.block ≠ g) :
    Calls Try.prog 20 #[.pointer (some ⟨g, 0, none⟩), .agg (ints (pOf L)), .agg (boxD d A3 c3 A4 c4)] w (TP g L w) := by
  obtain ⟨h, hh, h96⟩ : ∃ h : Nat, L.getD 96 0 = (h : Int) ∧ h < 96 := ⟨(L.getD 96 0).toNat, by have := hL.hand; omega, by have := hL.hand; omega⟩
  have hgw := blk_lt hb
  have hPl := pOf_length hL.len
  have hPh := (pOf_hand hL.len).trans hh
  have hRT := fun (w1 : World) (h1 : Kd.C Kd.bool w1 A3 d.f3.length d.f3) (h2 : Kd.C (Kd.int .i64) w1 A4 d.f4.length d.f4) => rturn_calls (pOf L) hPl h hPh h96 A3 c3 d.f3 A4 c4 d.f4 w1 h1 hSc h2 hBc hSl hBl
  rw [rndP_of hL.len] at hRT
  obtain ⟨w1, hw1⟩ : ∃ w1, w1 = ((w.alloc (.cells (ints (pOf L)) 41 (0, 0))).alloc (.cells (boxD d A3 c3 A4 c4) 44 (0, 0))).alloc (.cells (ints zer97) 41 (0, 0)) := ⟨_, rfl⟩
  have hP1 : PS w1 w.heap.size (pOf L) := by rw [hw1]; exact blk_alloc (blk_alloc (blk_new w _) _) _
  have hD1 : w1.heap[w.heap.size + 1]? = some (.cells (boxD d A3 c3 A4 c4) 44 (0, 0)) := by
    have := blk_new (w.alloc (.cells (ints (pOf L)) 41 (0, 0))) (.cells (boxD d A3 c3 A4 c4) 44 (0, 0))
    rw [World.size_alloc] at this
    rw [hw1]; exact blk_alloc this _
  have hZ1 : PS w1 (w.heap.size + 1 + 1) zer97 := by
    have := blk_new ((w.alloc (.cells (ints (pOf L)) 41 (0, 0))).alloc (.cells (boxD d A3 c3 A4 c4) 44 (0, 0))) (.cells (ints zer97) 41 (0, 0))
    rw [World.size_alloc, World.size_alloc] at this
    rw [hw1]; exact this
  have hb1 : Below w.heap.size w w1 := by rw [hw1]; exact below_alloc (below_alloc (below_alloc (Below.refl _ w) _) _) _
  have hz1 : w1.heap.size = w.heap.size + 1 + 1 + 1 := by rw [hw1, World.size_alloc, World.size_alloc, World.size_alloc]
  have hS1 := Kd.C_below hS hb1
  have hB1 := Kd.C_below hB hb1
  have hC1 : CS w1 g L := blk_below hb hb1
  have hR1 := hRT w1 hS1 hB1
  have hm := rnd_mem L d.f4 h 96
  have hrl := rnd_length L d.f4 h 96
  obtain ⟨P, hP⟩ : ∃ P, P = pOf L := ⟨_, rfl⟩
  rw [← hP] at hR1 hP1 hPl hPh hw1 ⊢
  obtain ⟨hq0, hq1, hq2, k3, k4⟩ := boxD_cells d A3 c3 A4 c4 hD1
  clear hRT hq0 hq1 hq2
  obtain ⟨xs, hxs⟩ : ∃ xs, xs = rnd L d.f4 h 96 := ⟨_, rfl⟩
  rw [← hxs] at hR1 hm hrl
  replace hw1 := Aside0.mk hw1
  replace hP1 := Aside0.mk hP1
  replace hD1 := Aside0.mk hD1
  replace hZ1 := Aside0.mk hZ1
  replace hb1 := Aside0.mk hb1
  replace hz1 := Aside0.mk hz1
  replace hS1 := Aside0.mk hS1
  replace hB1 := Aside0.mk hB1
  replace hC1 := Aside0.mk hC1
  replace hR1 := Aside0.mk hR1
  replace hm := Aside0.mk hm
  replace hrl := Aside0.mk hrl
  replace hP := Aside0.mk hP
  replace hxs := Aside0.mk hxs
  replace hPl := Aside0.mk hPl
  replace hPh := Aside0.mk hPh
  replace hh := Aside0.mk hh
  replace hL := Aside0.mk hL
  replace hSc := Aside0.mk hSc
  replace hBc := Aside0.mk hBc
  replace hSl := Aside0.mk hSl
  replace hBl := Aside0.mk hBl
  replace hgA := Aside0.mk hgA
  replace hgw := Aside0.mk hgw
  clear hb hS hB
  have hz := zv41
  have hne := zne
  have hPn := ints_ne' P hPl.out
  unfold boxD
  go_enter Try.func20, Try.ntmps20
  go_upto_region 1 with (fail)
  have ew1 := hw1.out
  unfold boxD at ew1
  rw [← ew1]
  clear ew1 hw1 hPn
  have hpn := Aside0.mk (fun w : World => (blk_new w (.cells (ints zer97) 41 (0, 0)) : PS (w.alloc (.cells (ints zer97) 41 (0, 0))) w.heap.size zer97))
  cases hxx : xs with
  | nil =>
    subst hxx
    have hR2 := Aside0.mk (hR1.out.mono (fun e w' h => rt_none h rfl))
    clear hR1
    go_upto_region 2 with (first | ((with_reducible refine gate_ld rfl ?_); refine wl_ld rfl _ rfl rfl hP1.out hPl.out ?_) | ((with_reducible refine gate_st rfl ?_); refine wl_st rfl _ _ rfl rfl rfl (hpn.out _) lz97 hPl.out ?_; intro w3 hp3 hf3; replace hp3 := Aside0.mk hp3; replace hf3 := Aside0.mk hf3) | (go_at_call 26; refine hR2.out.mono ?_; rintro e w2 ⟨rfl, hb2⟩; replace hb2 := Aside0.mk hb2))
    have hb3 : Below w1.heap.size w1 w3 := (below_alloc hb2.out _).trans (hf3.out.below (by rw [World.size_alloc]; have := hb2.out.size; omega) (fun i e => by rw [e]; exact hb2.out.size))
    have h23 : w2.heap.size + 1 ≤ w3.heap.size := by have := hf3.out.size; rw [World.size_alloc] at this; exact this
    replace hb3 := Aside0.mk hb3
    replace h23 := Aside0.mk h23
    clear k3 k4 hz
    go_upto_region 3 with (fail)
    obtain ⟨w4, hw4⟩ : ∃ w4, w4 = w3.alloc (.cells #[.slice none 0 0] 26 (0, 0)) := ⟨_, rfl⟩
    rw [← hw4]
    have hb4 : Below w1.heap.size w1 w4 := by rw [hw4]; exact below_alloc hb3.out _
    have hb24 := Aside0.mk (show Below w2.heap.size w2 w4 by rw [hw4]; exact below_alloc ((below_alloc (Below.refl _ w2) _).trans (hf3.out.below (by rw [World.size_alloc]; omega) (fun i e => by rw [e]; omega))) _)
    have hk4 : w4.heap[w3.heap.size]? = some (.cells #[.slice none 0 0] 26 (0, 0)) := by rw [hw4]; exact blk_new w3 _
    have hz4 : w4.heap.size = w3.heap.size + 1 := by rw [hw4, World.size_alloc]
    have hp4 : PS w4 w2.heap.size P := by rw [hw4]; exact blk_alloc hp3.out _
    clear hw4
    have hD4 := blk_below hD1.out hb4
    have hZ4 : PS w4 (w.heap.size + 1 + 1) zer97 := blk_below hZ1.out hb4
    have hC4 : CS w4 g L := blk_below hC1.out hb4
    have hS4 := Kd.C_below hS1.out hb4
    have hB4 := Kd.C_below hB1.out hb4
    have hb04 : Below w.heap.size w w4 := hb1.out.trans (Below_low hb4 (by have := hz1.out; omega))
    obtain ⟨_, _, _, k3, k4⟩ := boxD_cells d A3 c3 A4 c4 hD4
    have hsz2 := hb2.out.size
    have htn := Aside0.mk (turn_none g L hL.out.len h hh.out h96 (.func (.func 27) #[] #[.pointer (some ⟨w3.heap.size, 0, none⟩), .pointer (some ⟨w.heap.size + 1, 0, none⟩)]) A4 c4 d.f4 w4 hC4 hB4 hBc.out (by have := hBl.out; omega) hxs.out.symm)
    replace hsz2 := Aside0.mk hsz2
    replace hb4 := Aside0.mk hb4
    replace hk4 := Aside0.mk hk4
    replace hz4 := Aside0.mk hz4
    replace hp4 := Aside0.mk hp4
    replace hD4 := Aside0.mk hD4
    replace hZ4 := Aside0.mk hZ4
    replace hC4 := Aside0.mk hC4
    replace hS4 := Aside0.mk hS4
    replace hB4 := Aside0.mk hB4
    replace hb04 := Aside0.mk hb04
    go_upto_region 4 with (go_at_call 10; refine htn.out.mono ?_; rintro e w5 ⟨rfl, hb5⟩; replace hb5 := Aside0.mk hb5)
    have hp5 := Aside0.mk (show PS w5 w2.heap.size P from blk_below hp4.out hb5.out)
    have hz5 := Aside0.mk (show PS w5 (w.heap.size + 1 + 1) zer97 from blk_below hZ4.out hb5.out)
    have hC5 := Aside0.mk (show CS w5 g L from blk_below hC4.out hb5.out)
    have ht5 := blk_below hk4.out hb5.out
    have kt5 : w5.cell? ⟨w3.heap.size, 0, none⟩ = some (.slice none ([] : List Int).length 0) := (blk_cell ht5 0).trans rfl
    have hHeld6 := Aside0.mk (show ∀ w6, Below w5.drew.heap.size w5.drew w6 → w6.cell? ⟨w3.heap.size, 0, none⟩ = some (.slice none ([] : List Int).length 0) from fun w6 hb6 => (blk_cell (blk_below (show w5.drew.heap[w3.heap.size]? = _ from ht5) hb6) 0).trans rfl)
    have nilR : RI w5.drew w5.drew.heap.size (fun _ => True) (.slice none ([] : List Int).length 0) [] := Kd.R_nil _ _ _ _ _
    have hsame := Aside0.mk (same_calls [] (by decide) none 0 none 0 w5.drew (Kd.R_reads' nilR).2.2 (Nat.le_refl _) (Kd.R_reads' nilR).2.2 (Nat.le_refl _))
    replace ht5 := Aside0.mk ht5
    have hl2 := hPl
    clear k3 k4
    refine wp_region_held_drew (S := fun w' : World => PS w' w2.heap.size P ∧ w'.cell? ⟨w3.heap.size, 0, none⟩ = some (.slice none ([] : List Int).length 0)) (by kernel_rfl) ⟨hp5.out, kt5⟩ (fun hHeld => ?_)
    clear hHeld
    have hHeld : (fun w' : World => PS w' w2.heap.size P ∧ w'.cell? ⟨w3.heap.size, 0, none⟩ = some (.slice none ([] : List Int).length 0)) w5.drew := ⟨hp5.out, kt5⟩
    refine wpAnyH_take (i := 0) (oi := { dst := some 32, op := Op.load 41 (Operand.tmp 8), type := 41, pos := "law.go:53", after := #[], guard := none }) (v := _) rfl (by kernel_rfl) (by kernel_rfl) (by kernel_rfl) (fun _ _ _ h => h) (yl41 _ w2.heap.size P (by rfl) rfl rfl (fun _ h => h.1) hl2.out) (by assumption) ?_
    try simp only [Act.put, List.setIfInBounds_toArray, List.set_cons_zero, List.set_cons_succ]
    refine wpAnyH_take (i := 1) (oi := { dst := some 33, op := Op.move (Operand.tmp 13), type := 4, pos := "law.go:53", after := #[], guard := none }) (v := ?_) rfl (by kernel_rfl) (by kernel_rfl) (by kernel_rfl) (fun _ _ _ h => h) (Or.inl ⟨by rfl, ?_⟩) (by assumption) ?_
    rotate_left
    · (intro wq hSw; (try dsimp only at hSw); go_simp; try (with_reducible rfl))
    try simp only [Act.put, List.setIfInBounds_toArray, List.set_cons_zero, List.set_cons_succ]
    refine wpAnyH_take (i := 2) (oi := { dst := some 34, op := Op.move (Operand.tmp 9), type := 3, pos := "law.go:53", after := #[], guard := none }) (v := ?_) rfl (by kernel_rfl) (by kernel_rfl) (by kernel_rfl) (fun _ _ _ h => h) (Or.inl ⟨by rfl, ?_⟩) (by assumption) ?_
    rotate_left
    · (intro wq hSw; (try dsimp only at hSw); go_simp; try (with_reducible rfl))
    try simp only [Act.put, List.setIfInBounds_toArray, List.set_cons_zero, List.set_cons_succ]
    refine wpAnyH_take (i := 3) (oi := { dst := some 35, op := Op.binOp BinOp.geq 3 (Operand.tmp 34) (Operand.const (Value.int IntKind.i64 0)) 3, type := 4, pos := "law.go:53", after := #[{ on := 2, ground := Ground.data }], guard := none }) (v := ?_) rfl (by kernel_rfl) (by kernel_rfl) (by kernel_rfl) (fun _ _ _ h => h) (Or.inl ⟨by rfl, ?_⟩) (by assumption) ?_
    rotate_left
    · (intro wq hSw; (try dsimp only at hSw); go_simp; try (with_reducible rfl))
    try simp only [Act.put, List.setIfInBounds_toArray, List.set_cons_zero, List.set_cons_succ]
    refine wpAnyH_take (i := 4) (oi := { dst := some 36, op := Op.binOp BinOp.eql 4 (Operand.tmp 33) (Operand.tmp 35) 4, type := 4, pos := "law.go:53", after := #[{ on := 1, ground := Ground.data }, { on := 3, ground := Ground.data }], guard := none }) (v := ?_) rfl (by kernel_rfl) (by kernel_rfl) (by kernel_rfl) (fun _ _ _ h => h) (Or.inl ⟨by rfl, ?_⟩) (by assumption) ?_
    rotate_left
    · (intro wq hSw; (try dsimp only at hSw); go_simp; try (with_reducible rfl))
    try simp only [Act.put, List.setIfInBounds_toArray, List.set_cons_zero, List.set_cons_succ]
    refine wpAnyH_take (i := 5) (oi := { dst := some 37, op := Op.move (Operand.tmp 36), type := 4, pos := "law.go:53", after := #[{ on := 4, ground := Ground.data }], guard := none }) (v := ?_) rfl (by kernel_rfl) (by kernel_rfl) (by kernel_rfl) (fun _ _ _ h => h) (Or.inl ⟨by rfl, ?_⟩) (by assumption) ?_
    rotate_left
    · (intro wq hSw; (try dsimp only at hSw); go_simp; try (with_reducible rfl))
    try simp only [Act.put, List.setIfInBounds_toArray, List.set_cons_zero, List.set_cons_succ]
    refine wpAnyH_take (i := 6) (oi := { dst := some 38, op := Op.move (Operand.tmp 12), type := 3, pos := "law.go:53", after := #[{ on := 5, ground := Ground.guard }], guard := some (5, true) }) (v := ?_) rfl (by kernel_rfl) (by kernel_rfl) (by kernel_rfl) (fun _ _ _ h => h) (Or.inl ⟨by rfl, ?_⟩) (by assumption) ?_
    rotate_left
    · (intro wq hSw; (try dsimp only at hSw); go_simp; try (with_reducible rfl))
    try simp only [Act.put, List.setIfInBounds_toArray, List.set_cons_zero, List.set_cons_succ]
    refine wpAnyH_take (i := 7) (oi := { dst := some 39, op := Op.move (Operand.tmp 9), type := 3, pos := "law.go:53", after := #[{ on := 5, ground := Ground.guard }], guard := some (5, true) }) (v := ?_) rfl (by kernel_rfl) (by kernel_rfl) (by kernel_rfl) (fun _ _ _ h => h) (Or.inl ⟨by rfl, ?_⟩) (by assumption) ?_
    rotate_left
    · (intro wq hSw; (try dsimp only at hSw); go_simp; try (with_reducible rfl))
    try simp only [Act.put, List.setIfInBounds_toArray, List.set_cons_zero, List.set_cons_succ]
    refine wpAnyH_take (i := 8) (oi := { dst := some 40, op := Op.call { callee := Callee.builtin Builtin.max, args := #[Operand.const (Value.int IntKind.i64 0), Operand.tmp 39], argTypes := #[3, 3] }, type := 3, pos := "law.go:53", after := #[{ on := 7, ground := Ground.data }, { on := 5, ground := Ground.guard }], guard := some (5, true) }) (v := ?_) rfl (by kernel_rfl) (by kernel_rfl) (by kernel_rfl) (fun _ _ _ h => h) (Or.inl ⟨by rfl, ?_⟩) (by assumption) ?_
    rotate_left
    · (intro wq hSw; (try dsimp only at hSw); go_simp; try (with_reducible rfl))
    try simp only [Act.put, List.setIfInBounds_toArray, List.set_cons_zero, List.set_cons_succ]
    refine wpAnyH_take (i := 9) (oi := { dst := some 41, op := Op.binOp BinOp.eql 3 (Operand.tmp 38) (Operand.tmp 40) 3, type := 4, pos := "law.go:53", after := #[{ on := 6, ground := Ground.data }, { on := 8, ground := Ground.data }, { on := 5, ground := Ground.guard }], guard := some (5, true) }) (v := ?_) rfl (by kernel_rfl) (by kernel_rfl) (by kernel_rfl) (fun _ _ _ h => h) (Or.inl ⟨by rfl, ?_⟩) (by assumption) ?_
    rotate_left
    · (intro wq hSw; (try dsimp only at hSw); go_simp; try (with_reducible rfl))
    try simp only [Act.put, List.setIfInBounds_toArray, List.set_cons_zero, List.set_cons_succ]
    refine wpAnyH_take (i := 10) (oi := { dst := some 42, op := Op.pick (Operand.tmp 37) (Operand.tmp 41) (Operand.const (Value.bool false)), type := 4, pos := "law.go:53", after := #[{ on := 5, ground := Ground.data }, { on := 9, ground := Ground.data }], guard := none }) (v := ?_) rfl (by kernel_rfl) (by kernel_rfl) (by kernel_rfl) (fun _ _ _ h => h) (Or.inl ⟨by rfl, ?_⟩) (by assumption) ?_
    rotate_left
    · (intro wq hSw; (try dsimp only at hSw); go_simp; try (with_reducible rfl))
    try simp only [Act.put, List.setIfInBounds_toArray, List.set_cons_zero, List.set_cons_succ]
    refine wpAnyH_take (i := 11) (oi := { dst := some 43, op := Op.move (Operand.tmp 42), type := 4, pos := "law.go:53", after := #[{ on := 10, ground := Ground.data }, { on := 5, ground := Ground.chain }], guard := none }) (v := ?_) rfl (by kernel_rfl) (by kernel_rfl) (by kernel_rfl) (fun _ _ _ h => h) (Or.inl ⟨by rfl, ?_⟩) (by assumption) ?_
    rotate_left
    · (intro wq hSw; (try dsimp only at hSw); go_simp; try (with_reducible rfl))
    try simp only [Act.put, List.setIfInBounds_toArray, List.set_cons_zero, List.set_cons_succ]
    refine wpAnyH_take (i := 12) (oi := { dst := some 44, op := Op.load 26 (Operand.tmp 11), type := 26, pos := "law.go:53", after := #[{ on := 11, ground := Ground.guard }], guard := some (11, true) }) (v := ?_) rfl (by kernel_rfl) (by kernel_rfl) (by kernel_rfl) (fun _ _ _ h => h) (Or.inl ⟨by rfl, ?_⟩) (by assumption) ?_
    rotate_left
    · (intro wq hSw; (try dsimp only at hSw); go_simp; try (with_reducible rfl))
    try simp only [Act.put, List.setIfInBounds_toArray, List.set_cons_zero, List.set_cons_succ]
    refine wpAnyH_take (i := 13) (oi := { dst := some 45, op := Op.move (Operand.tmp 10), type := 26, pos := "law.go:53", after := #[{ on := 11, ground := Ground.guard }], guard := some (11, true) }) (v := ?_) rfl (by kernel_rfl) (by kernel_rfl) (by kernel_rfl) (fun _ _ _ h => h) (Or.inl ⟨by rfl, ?_⟩) (by assumption) ?_
    rotate_left
    · (intro wq hSw; (try dsimp only at hSw); go_simp; try (with_reducible rfl))
    try simp only [Act.put, List.setIfInBounds_toArray, List.set_cons_zero, List.set_cons_succ]
    refine wpAnyH_ready (rs := [14]) (by kernel_rfl) (by simp) ?_
    refine AllReadyH.cons (o := { dst := some 46, op := Op.call { callee := Callee.value (Operand.func 28), args := #[Operand.tmp 44, Operand.tmp 45], argTypes := #[26, 26] }, type := 4, pos := "law.go:53", after := #[{ on := 12, ground := Ground.data }, { on := 13, ground := Ground.data }, { on := 11, ground := Ground.chain }, { on := 11, ground := Ground.guard }], guard := some (11, true) }) rfl (fun K hK => ?_) ?_
    rotate_left
    · exact AllReadyH.nil
    go_simp
    go_at_call 28
    refine hsame.out.mono ?_
    rintro e w6 ⟨rfl, hdr⟩
    have hb6 := hdr.below
    have hp6 : PS w6 w2.heap.size P := blk_below (show PS w5.drew _ _ from hp5.out) hb6
    have hz6 : PS w6 (w.heap.size + 1 + 1) zer97 := blk_below (show PS w5.drew _ _ from hz5.out) hb6
    have kt6 := hHeld6.out w6 hb6
    refine hK.out _ _ ?_ (fun hHeld => ?_)
    · exact ⟨hp6, kt6⟩
    clear hK K
    try simp only [Act.put, List.setIfInBounds_toArray, List.set_cons_zero, List.set_cons_succ]
    refine wpAnyH_take (i := 15) (oi := { dst := some 47, op := Op.pick (Operand.tmp 43) (Operand.tmp 46) (Operand.const (Value.bool false)), type := 4, pos := "law.go:53", after := #[{ on := 11, ground := Ground.data }, { on := 14, ground := Ground.data }, { on := 16, ground := Ground.gcOnly Departure.lateStores }], guard := none }) (v := ?_) rfl (by kernel_rfl) (by kernel_rfl) (by kernel_rfl) (fun _ _ _ h => h) (Or.inl ⟨by rfl, ?_⟩) (by assumption) ?_
    rotate_left
    · (intro wq hSw; (try dsimp only at hSw); go_simp; try (with_reducible rfl))
    try simp only [Act.put, List.setIfInBounds_toArray, List.set_cons_zero, List.set_cons_succ]
    refine wpAnyH_ready (rs := [16]) (by kernel_rfl) (by simp) ?_
    refine AllReadyH.cons (o := { dst := none, op := Op.store 41 (Operand.tmp 6) (Operand.tmp 32), type := 0, pos := "law.go:53", after := #[{ on := 0, ground := Ground.data }, { on := 14, ground := Ground.chain }, { on := 0, ground := Ground.phase }, { on := 1, ground := Ground.textOnly Departure.lateStores }, { on := 2, ground := Ground.textOnly Departure.lateStores }, { on := 3, ground := Ground.textOnly Departure.lateStores }, { on := 4, ground := Ground.textOnly Departure.lateStores }, { on := 5, ground := Ground.textOnly Departure.lateStores }, { on := 6, ground := Ground.textOnly Departure.lateStores }, { on := 7, ground := Ground.textOnly Departure.lateStores }, { on := 8, ground := Ground.textOnly Departure.lateStoresUnsure }, { on := 9, ground := Ground.textOnly Departure.lateStores }, { on := 10, ground := Ground.textOnly Departure.lateStores }, { on := 11, ground := Ground.textOnly Departure.lateStores }, { on := 12, ground := Ground.textOnly Departure.lateStores }, { on := 13, ground := Ground.textOnly Departure.lateStores }, { on := 14, ground := Ground.textOnly Departure.lateStoresUnsure }, { on := 15, ground := Ground.textOnly Departure.lateStores }], guard := none }) rfl (fun K hK => ?_) ?_
    rotate_left
    · exact AllReadyH.nil
    rw [if_pos (by rfl)]
    refine wp_store_row 41 (.tmp 6) (.tmp 32) rfl (w.heap.size + 1 + 1) (ints P) rfl rfl 41 (ints zer97) hz6 (by rw [info41, ints_size, hl2.out]) (by rw [ints_size, ints_size, lz97, hl2.out]) (ints_one _) ?_
    have hp7 := setRow_same (Q := P) hz6
    have hf7 := setRow_far w6 (w.heap.size + 1 + 1) (ints P)
    generalize w6.setRow (w.heap.size + 1 + 1) (ints P) = w7 at hp7 hf7 ⊢
    refine hK.out _ _ ?_ (fun hHeld => ?_)
    · exact ⟨hf7.blk hp6 (fun e => by have e' : w2.heap.size = w.heap.size + 1 + 1 := e; have h1 := hsz2.out; have h2 := hz1.out; omega), by rw [← kt6]; exact World.cell?_of_block (hf7.block _ (World.block_lt_of_cell? _ _ kt6) (fun e => by have e' : w3.heap.size = w.heap.size + 1 + 1 := e; have h1 := h23.out; have h2 := hsz2.out; have h3 := hz1.out; omega))⟩
    clear hK K
    try simp only [Act.put, List.setIfInBounds_toArray, List.set_cons_zero, List.set_cons_succ]
    refine wpAnyH_take (i := 17) (oi := { dst := some 7, op := Op.assign (Operand.tmp 47), type := 4, pos := "law.go:53", after := #[{ on := 15, ground := Ground.data }, { on := 16, ground := Ground.chain }, { on := 0, ground := Ground.phase }, { on := 1, ground := Ground.phase }, { on := 2, ground := Ground.phase }, { on := 3, ground := Ground.phase }, { on := 4, ground := Ground.phase }, { on := 5, ground := Ground.phase }, { on := 6, ground := Ground.phase }, { on := 7, ground := Ground.phase }, { on := 8, ground := Ground.phase }, { on := 9, ground := Ground.phase }, { on := 10, ground := Ground.phase }, { on := 11, ground := Ground.phase }, { on := 12, ground := Ground.phase }, { on := 13, ground := Ground.phase }, { on := 14, ground := Ground.phase }, { on := 15, ground := Ground.phase }, { on := 16, ground := Ground.phase }], guard := none }) (v := ?_) rfl (by kernel_rfl) (by kernel_rfl) (by kernel_rfl) (fun _ _ _ h => h) (Or.inl ⟨by rfl, ?_⟩) (by assumption) ?_
    rotate_left
    · (intro wq hSw; (try dsimp only at hSw); go_simp; try (with_reducible rfl))
    try simp only [Act.put, List.setIfInBounds_toArray, List.set_cons_zero, List.set_cons_succ]
    refine wpAnyH_done (by kernel_rfl) ?_ _
    clear hHeld kt5 kt6
    replace hp7 := Aside0.mk hp7
    replace hf7 := Aside0.mk hf7
    replace hb6 := Aside0.mk hb6
    go_wp2
    exact bodyPost_ret (results_cell2 rfl _ _ (w.heap.size + 1 + 1) P hl2.out rfl hp7.out) rfl ⟨⟨L, hL.out, rfl, by rw [← hP.out]; rfl, hf7.out.blk (blk_below (show CS w5.drew g L from hC5.out) hb6.out) (fun e => by have e' : g = w.heap.size + 1 + 1 := e; have := hgw.out; omega)⟩, (((Far.of_below hb04.out).then_ ((Far.of_below (below_drew hb5.out)).then_ (Far.of_below hb6.out))).then_ (hf7.out.mono (fun k e => .inr (by rw [e]; omega))))⟩
  | cons x0 r =>
    subst hxx
    obtain ⟨x, rfl, hx96⟩ := hm.out x0 (List.mem_cons_self ..)
    have hR2 := Aside0.mk (hR1.out.mono (fun e w' h => rt_some h rfl))
    clear hR1
    go_upto_region 2 with (first | ((with_reducible refine gate_ld rfl ?_); refine wl_ld rfl _ rfl rfl hP1.out hPl.out ?_) | ((with_reducible refine gate_st rfl ?_); refine wl_st rfl _ _ rfl rfl rfl (hpn.out _) lz97 hl2.out ?_; intro w3 hp3 hf3; replace hp3 := Aside0.mk hp3; replace hf3 := Aside0.mk hf3) | (go_at_call 26; refine hR2.out.mono ?_; rintro e w2 ⟨y, A6, c6, rfl, hrs⟩; obtain ⟨s, hs⟩ : ∃ s, s = (askAll (askS d.f3) nxtS [] (((x : Int) :: r) ++ ((x : Int) :: r))).1 := ⟨_, rfl⟩; rw [← hs]; obtain ⟨P2, hP2⟩ : ∃ P2, P2 = P.set 96 (((y + 1) % 96 : Nat) : Int) := ⟨_, rfl⟩; rw [← hP2]; have hb2 := Aside0.mk hrs.below; have hl2 := Aside0.mk (show P2.length = 97 by rw [hP2, List.length_set]; exact hPl.out); replace hrs := Aside0.mk hrs; replace hs := Aside0.mk hs; replace hP2 := Aside0.mk hP2))
    have hb3 : Below w1.heap.size w1 w3 := (below_alloc hb2.out _).trans (hf3.out.below (by rw [World.size_alloc]; have := hb2.out.size; omega) (fun i e => by rw [e]; exact hb2.out.size))
    have h23 : w2.heap.size + 1 ≤ w3.heap.size := by have := hf3.out.size; rw [World.size_alloc] at this; exact this
    replace hb3 := Aside0.mk hb3
    replace h23 := Aside0.mk h23
    clear k3 k4 hz
    go_upto_region 3 with (fail)
    obtain ⟨w4, hw4⟩ : ∃ w4, w4 = w3.alloc (.cells #[.slice none 0 0] 26 (0, 0)) := ⟨_, rfl⟩
    rw [← hw4]
    have hb4 : Below w1.heap.size w1 w4 := by rw [hw4]; exact below_alloc hb3.out _
    have hb24 := Aside0.mk (show Below w2.heap.size w2 w4 by rw [hw4]; exact below_alloc ((below_alloc (Below.refl _ w2) _).trans (hf3.out.below (by rw [World.size_alloc]; omega) (fun i e => by rw [e]; omega))) _)
    have hk4 : w4.heap[w3.heap.size]? = some (.cells #[.slice none 0 0] 26 (0, 0)) := by rw [hw4]; exact blk_new w3 _
    have hz4 : w4.heap.size = w3.heap.size + 1 := by rw [hw4, World.size_alloc]
    have hp4 : PS w4 w2.heap.size P2 := by rw [hw4]; exact blk_alloc hp3.out _
    clear hw4
    have hD4 := blk_below hD1.out hb4
    have hZ4 : PS w4 (w.heap.size + 1 + 1) zer97 := blk_below hZ1.out hb4
    have hC4 : CS w4 g L := blk_below hC1.out hb4
    have hS4 := Kd.C_below hS1.out hb4
    have hB4 := Kd.C_below hB1.out hb4
    have hb04 : Below w.heap.size w w4 := hb1.out.trans (Below_low hb4 (by have := hz1.out; omega))
    obtain ⟨_, _, _, k3, k4⟩ := boxD_cells d A3 c3 A4 c4 hD4
    have hsz2 := hb2.out.size
    have htt := Aside0.mk (turn_told (Told w3.heap.size (w.heap.size + 1) w4.heap.size d A3 c3 A4 c4) (askS d.f3) nxtS w3.heap.size (fun N i s W W' h hb => h.below hb) (w.heap.size + 1) (fun N i s f W hi hN hh hf => told_calls w3.heap.size (w.heap.size + 1) w4.heap.size d A3 c3 A4 c4 N i s f W hi hN hh) [] g
      (fun N j s W i u hg hh => hh.set hg (fun e => by have h1 := h23.out; have h2 := hb2.out.size; have h3 := hz1.out; have h4 := hgw.out; omega) (fun e => by have h4 := hgw.out; omega) (fun ad e hp => (hgA.out ad e hp).2) i u) L hL.out.len h hh.out h96 A4 c4 d.f4 w4 hC4 hB4 hBc.out (by have := hBl.out; omega) x r hxs.out.symm hx96
      (fun N hN => ⟨rfl, hN, ⟨by omega, by have h1 := h23.out; have h2 := hb2.out.size; have h3 := hz1.out; omega, by have h1 := h23.out; have h2 := hb2.out.size; have h3 := hz1.out; omega⟩, ⟨none, 0, hk4, Kd.R_nil _ _ _ _ _⟩, hD4, hS4, hSc.out, fun ad e hp => by have h0 := hgA.out ad e hp; have h1 := h23.out; have h2 := hb2.out.size; have h3 := hz1.out; exact ⟨by omega, by omega⟩⟩)
      (fun e => by have h1 := h23.out; have h2 := hb2.out.size; have h3 := hz1.out; have h4 := hgw.out; omega) (by omega))
    replace hsz2 := Aside0.mk hsz2
    replace hb4 := Aside0.mk hb4
    replace hk4 := Aside0.mk hk4
    replace hz4 := Aside0.mk hz4
    replace hp4 := Aside0.mk hp4
    replace hD4 := Aside0.mk hD4
    replace hZ4 := Aside0.mk hZ4
    replace hC4 := Aside0.mk hC4
    replace hS4 := Aside0.mk hS4
    replace hB4 := Aside0.mk hB4
    replace hb04 := Aside0.mk hb04
    rw [← hxs.out] at htt
    go_upto_region 4 with (go_at_call 10; refine htt.out.mono ?_; rintro e w5 ⟨y', hy96, rfl, hy', hkt, hCg, hf5⟩; replace hkt := Aside0.mk hkt; replace hCg := Aside0.mk hCg; replace hf5 := Aside0.mk hf5; obtain rfl : y' = y := (by have h1 := hrs.out.yx; rw [← hy'] at h1; omega); clear hy')
    obtain ⟨N5, j5, hN5, hT5⟩ := hkt.out.of
    rw [← hs.out] at hT5
    obtain ⟨A5, c5, ht5, hr5⟩ := hT5.row
    have hfne : ∀ k, k < w4.heap.size → k ≠ g → k ≠ w3.heap.size → w5.heap[k]? = w4.heap[k]? := fun k h1 h2 h3 => hf5.out.block k h1 (fun e => e.elim h2 h3)
    have hp5 := Aside0.mk (show PS w5 w2.heap.size P2 from hf5.out.blk hp4.out (fun e => by have h1 := h23.out; have h2 := hsz2.out; have h3 := hz1.out; have h4 := hgw.out; rcases e with e | e <;> omega))
    have hz5 := Aside0.mk (show PS w5 (w.heap.size + 1 + 1) zer97 from hf5.out.blk hZ4.out (fun e => by have h1 := h23.out; have h2 := hsz2.out; have h3 := hz1.out; have h4 := hgw.out; rcases e with e | e <;> omega))
    have kt5 : w5.cell? ⟨w3.heap.size, 0, none⟩ = some (.slice A5 s.length c5) := (blk_cell ht5 0).trans rfl
    have hHeld6 := Aside0.mk (show ∀ w6, Below w5.drew.heap.size w5.drew w6 → w6.cell? ⟨w3.heap.size, 0, none⟩ = some (.slice A5 s.length c5) from fun w6 hb6 => (blk_cell (blk_below (show w5.drew.heap[w3.heap.size]? = _ from ht5) hb6) 0).trans rfl)
    have hr6 := hrs.out.row
    rw [← hs.out] at hr6
    have hb24 := hb24.out
    have hr64 := Kd.R_below hr6 hb24
    have hr65 : RI w5 w1.heap.size (fun _ => True) (.slice A6 s.length c6) s := Kd.R_mono (Kd.R_step (Kd.R_tight rfl hr64) (fun k hk hlt => hf5.out.block k hlt (fun e => by have h1 := Kd.R_base hr6 k hk.symm; have h2 := Kd.R_lt hr6 k hk.symm; have h3 := hz1.out; have h4 := hgw.out; have h5 := h23.out; rcases e with e | e <;> omega))) (fun _ _ => trivial)
    have hsl : s.length < 9223372036854775807 := by rw [hs.out]; have h1 := nxt_length d.f3 (((x : Int) :: r) ++ ((x : Int) :: r)) []; rw [List.length_append] at h1; have h2 := hrl.out; simp only [List.length_nil] at h1; omega
    have hc65 := Kd.R_reads' hr65
    have hc5 := Kd.R_reads' hr5
    have hsame := Aside0.mk (same_calls s hsl A5 c5 A6 c6 w5.drew (Kd.C_below hc5.2.2 (below_drew (Below.refl _ w5))) hc5.2.1 (Kd.C_below hc65.2.2 (below_drew (Below.refl _ w5))) hc65.2.1)
    replace ht5 := Aside0.mk ht5
    clear k3 k4 hr5 hr6 hr64 hr65 hc65 hc5 hT5 hfne hsl hb24 hN5
    have y0 : decide ((y' : Int) ≥ 0) = true := decide_eq_true (by omega)
    have y1 : decide ((0 : Int) ≤ (y' : Int)) = true := decide_eq_true (by omega)
    refine wp_region_held_drew (S := fun w' : World => PS w' w2.heap.size P2 ∧ w'.cell? ⟨w3.heap.size, 0, none⟩ = some (.slice A5 s.length c5)) (by kernel_rfl) ⟨hp5.out, kt5⟩ (fun hHeld => ?_)
    clear hHeld
    have hHeld : (fun w' : World => PS w' w2.heap.size P2 ∧ w'.cell? ⟨w3.heap.size, 0, none⟩ = some (.slice A5 s.length c5)) w5.drew := ⟨hp5.out, kt5⟩
    refine wpAnyH_take (i := 0) (oi := { dst := some 32, op := Op.load 41 (Operand.tmp 8), type := 41, pos := "law.go:53", after := #[], guard := none }) (v := _) rfl (by kernel_rfl) (by kernel_rfl) (by kernel_rfl) (fun _ _ _ h => h) (yl41 _ w2.heap.size P2 (by rfl) rfl rfl (fun _ h => h.1) hl2.out) (by assumption) ?_
    try simp only [Act.put, List.setIfInBounds_toArray, List.set_cons_zero, List.set_cons_succ]
    refine wpAnyH_take (i := 1) (oi := { dst := some 33, op := Op.move (Operand.tmp 13), type := 4, pos := "law.go:53", after := #[], guard := none }) (v := ?_) rfl (by kernel_rfl) (by kernel_rfl) (by kernel_rfl) (fun _ _ _ h => h) (Or.inl ⟨by rfl, ?_⟩) (by assumption) ?_
    rotate_left
    · (intro wq hSw; (try dsimp only at hSw); go_simp; try (with_reducible rfl))
    try simp only [Act.put, List.setIfInBounds_toArray, List.set_cons_zero, List.set_cons_succ]
    refine wpAnyH_take (i := 2) (oi := { dst := some 34, op := Op.move (Operand.tmp 9), type := 3, pos := "law.go:53", after := #[], guard := none }) (v := ?_) rfl (by kernel_rfl) (by kernel_rfl) (by kernel_rfl) (fun _ _ _ h => h) (Or.inl ⟨by rfl, ?_⟩) (by assumption) ?_
    rotate_left
    · (intro wq hSw; (try dsimp only at hSw); go_simp; try (with_reducible rfl))
    try simp only [Act.put, List.setIfInBounds_toArray, List.set_cons_zero, List.set_cons_succ]
    refine wpAnyH_take (i := 3) (oi := { dst := some 35, op := Op.binOp BinOp.geq 3 (Operand.tmp 34) (Operand.const (Value.int IntKind.i64 0)) 3, type := 4, pos := "law.go:53", after := #[{ on := 2, ground := Ground.data }], guard := none }) (v := ?_) rfl (by kernel_rfl) (by kernel_rfl) (by kernel_rfl) (fun _ _ _ h => h) (Or.inl ⟨by rfl, ?_⟩) (by assumption) ?_
    rotate_left
    · (intro wq hSw; (try dsimp only at hSw); go_simp; try (with_reducible rfl))
    try simp only [Act.put, List.setIfInBounds_toArray, List.set_cons_zero, List.set_cons_succ]
    refine wpAnyH_take (i := 4) (oi := { dst := some 36, op := Op.binOp BinOp.eql 4 (Operand.tmp 33) (Operand.tmp 35) 4, type := 4, pos := "law.go:53", after := #[{ on := 1, ground := Ground.data }, { on := 3, ground := Ground.data }], guard := none }) (v := ?_) rfl (by kernel_rfl) (by kernel_rfl) (by kernel_rfl) (fun _ _ _ h => h) (Or.inl ⟨by rfl, ?_⟩) (by assumption) ?_
    rotate_left
    · (intro wq hSw; (try dsimp only at hSw); go_simp; try (with_reducible rfl))
    try simp only [Act.put, List.setIfInBounds_toArray, List.set_cons_zero, List.set_cons_succ]
    refine wpAnyH_take (i := 5) (oi := { dst := some 37, op := Op.move (Operand.tmp 36), type := 4, pos := "law.go:53", after := #[{ on := 4, ground := Ground.data }], guard := none }) (v := ?_) rfl (by kernel_rfl) (by kernel_rfl) (by kernel_rfl) (fun _ _ _ h => h) (Or.inl ⟨by rfl, ?_⟩) (by assumption) ?_
    rotate_left
    · (intro wq hSw; (try dsimp only at hSw); go_simp; try (with_reducible rfl))
    try simp only [Act.put, List.setIfInBounds_toArray, List.set_cons_zero, List.set_cons_succ]
    refine wpAnyH_take (i := 6) (oi := { dst := some 38, op := Op.move (Operand.tmp 12), type := 3, pos := "law.go:53", after := #[{ on := 5, ground := Ground.guard }], guard := some (5, true) }) (v := ?_) rfl (by kernel_rfl) (by kernel_rfl) (by kernel_rfl) (fun _ _ _ h => h) (Or.inl ⟨by rfl, ?_⟩) (by assumption) ?_
    rotate_left
    · (intro wq hSw; (try dsimp only at hSw); go_simp; try (with_reducible rfl))
    try simp only [Act.put, List.setIfInBounds_toArray, List.set_cons_zero, List.set_cons_succ]
    refine wpAnyH_take (i := 7) (oi := { dst := some 39, op := Op.move (Operand.tmp 9), type := 3, pos := "law.go:53", after := #[{ on := 5, ground := Ground.guard }], guard := some (5, true) }) (v := ?_) rfl (by kernel_rfl) (by kernel_rfl) (by kernel_rfl) (fun _ _ _ h => h) (Or.inl ⟨by rfl, ?_⟩) (by assumption) ?_
    rotate_left
    · (intro wq hSw; (try dsimp only at hSw); go_simp; try (with_reducible rfl))
    try simp only [Act.put, List.setIfInBounds_toArray, List.set_cons_zero, List.set_cons_succ]
    refine wpAnyH_take (i := 8) (oi := { dst := some 40, op := Op.call { callee := Callee.builtin Builtin.max, args := #[Operand.const (Value.int IntKind.i64 0), Operand.tmp 39], argTypes := #[3, 3] }, type := 3, pos := "law.go:53", after := #[{ on := 7, ground := Ground.data }, { on := 5, ground := Ground.guard }], guard := some (5, true) }) (v := ?_) rfl (by kernel_rfl) (by kernel_rfl) (by kernel_rfl) (fun _ _ _ h => h) (Or.inl ⟨by rfl, ?_⟩) (by assumption) ?_
    rotate_left
    · (intro wq hSw; (try dsimp only at hSw); go_simp; try (with_reducible rfl))
    try simp only [Act.put, List.setIfInBounds_toArray, List.set_cons_zero, List.set_cons_succ]
    refine wpAnyH_take (i := 9) (oi := { dst := some 41, op := Op.binOp BinOp.eql 3 (Operand.tmp 38) (Operand.tmp 40) 3, type := 4, pos := "law.go:53", after := #[{ on := 6, ground := Ground.data }, { on := 8, ground := Ground.data }, { on := 5, ground := Ground.guard }], guard := some (5, true) }) (v := ?_) rfl (by kernel_rfl) (by kernel_rfl) (by kernel_rfl) (fun _ _ _ h => h) (Or.inl ⟨by rfl, ?_⟩) (by assumption) ?_
    rotate_left
    · (intro wq hSw; (try dsimp only at hSw); go_simp; try (with_reducible rfl))
    try simp only [Act.put, List.setIfInBounds_toArray, List.set_cons_zero, List.set_cons_succ]
    rw [show ((y' : Int) == if 0 < y' then (y' : Int) else 0) = true from by (by_cases hy0 : 0 < y' <;> simp [hy0] <;> omega)]
    refine wpAnyH_take (i := 10) (oi := { dst := some 42, op := Op.pick (Operand.tmp 37) (Operand.tmp 41) (Operand.const (Value.bool false)), type := 4, pos := "law.go:53", after := #[{ on := 5, ground := Ground.data }, { on := 9, ground := Ground.data }], guard := none }) (v := ?_) rfl (by kernel_rfl) (by kernel_rfl) (by kernel_rfl) (fun _ _ _ h => h) (Or.inl ⟨by rfl, ?_⟩) (by assumption) ?_
    rotate_left
    · (intro wq hSw; (try dsimp only at hSw); go_simp; try (with_reducible rfl))
    try simp only [Act.put, List.setIfInBounds_toArray, List.set_cons_zero, List.set_cons_succ]
    refine wpAnyH_take (i := 11) (oi := { dst := some 43, op := Op.move (Operand.tmp 42), type := 4, pos := "law.go:53", after := #[{ on := 10, ground := Ground.data }, { on := 5, ground := Ground.chain }], guard := none }) (v := ?_) rfl (by kernel_rfl) (by kernel_rfl) (by kernel_rfl) (fun _ _ _ h => h) (Or.inl ⟨by rfl, ?_⟩) (by assumption) ?_
    rotate_left
    · (intro wq hSw; (try dsimp only at hSw); go_simp; try (with_reducible rfl))
    try simp only [Act.put, List.setIfInBounds_toArray, List.set_cons_zero, List.set_cons_succ]
    refine wpAnyH_take (i := 12) (oi := { dst := some 44, op := Op.load 26 (Operand.tmp 11), type := 26, pos := "law.go:53", after := #[{ on := 11, ground := Ground.guard }], guard := some (11, true) }) (v := ?_) rfl (by kernel_rfl) (by kernel_rfl) (by kernel_rfl) (fun _ _ _ h => h) (Or.inl ⟨by rfl, ?_⟩) (by assumption) ?_
    rotate_left
    · (intro wq hSw; (try dsimp only at hSw); go_simp; try (with_reducible rfl))
    try simp only [Act.put, List.setIfInBounds_toArray, List.set_cons_zero, List.set_cons_succ]
    refine wpAnyH_take (i := 13) (oi := { dst := some 45, op := Op.move (Operand.tmp 10), type := 26, pos := "law.go:53", after := #[{ on := 11, ground := Ground.guard }], guard := some (11, true) }) (v := ?_) rfl (by kernel_rfl) (by kernel_rfl) (by kernel_rfl) (fun _ _ _ h => h) (Or.inl ⟨by rfl, ?_⟩) (by assumption) ?_
    rotate_left
    · (intro wq hSw; (try dsimp only at hSw); go_simp; try (with_reducible rfl))
    try simp only [Act.put, List.setIfInBounds_toArray, List.set_cons_zero, List.set_cons_succ]
    refine wpAnyH_ready (rs := [14]) (by kernel_rfl) (by simp) ?_
    refine AllReadyH.cons (o := { dst := some 46, op := Op.call { callee := Callee.value (Operand.func 28), args := #[Operand.tmp 44, Operand.tmp 45], argTypes := #[26, 26] }, type := 4, pos := "law.go:53", after := #[{ on := 12, ground := Ground.data }, { on := 13, ground := Ground.data }, { on := 11, ground := Ground.chain }, { on := 11, ground := Ground.guard }], guard := some (11, true) }) rfl (fun K hK => ?_) ?_
    rotate_left
    · exact AllReadyH.nil
    go_simp
    go_at_call 28
    refine hsame.out.mono ?_
    rintro e w6 ⟨rfl, hdr⟩
    have hb6 := hdr.below
    have hp6 : PS w6 w2.heap.size P2 := blk_below (show PS w5.drew _ _ from hp5.out) hb6
    have hz6 : PS w6 (w.heap.size + 1 + 1) zer97 := blk_below (show PS w5.drew _ _ from hz5.out) hb6
    have kt6 := hHeld6.out w6 hb6
    refine hK.out _ _ ?_ (fun hHeld => ?_)
    · exact ⟨hp6, kt6⟩
    clear hK K
    try simp only [Act.put, List.setIfInBounds_toArray, List.set_cons_zero, List.set_cons_succ]
    refine wpAnyH_take (i := 15) (oi := { dst := some 47, op := Op.pick (Operand.tmp 43) (Operand.tmp 46) (Operand.const (Value.bool false)), type := 4, pos := "law.go:53", after := #[{ on := 11, ground := Ground.data }, { on := 14, ground := Ground.data }, { on := 16, ground := Ground.gcOnly Departure.lateStores }], guard := none }) (v := ?_) rfl (by kernel_rfl) (by kernel_rfl) (by kernel_rfl) (fun _ _ _ h => h) (Or.inl ⟨by rfl, ?_⟩) (by assumption) ?_
    rotate_left
    · (intro wq hSw; (try dsimp only at hSw); go_simp; try (with_reducible rfl))
    try simp only [Act.put, List.setIfInBounds_toArray, List.set_cons_zero, List.set_cons_succ]
    refine wpAnyH_ready (rs := [16]) (by kernel_rfl) (by simp) ?_
    refine AllReadyH.cons (o := { dst := none, op := Op.store 41 (Operand.tmp 6) (Operand.tmp 32), type := 0, pos := "law.go:53", after := #[{ on := 0, ground := Ground.data }, { on := 14, ground := Ground.chain }, { on := 0, ground := Ground.phase }, { on := 1, ground := Ground.textOnly Departure.lateStores }, { on := 2, ground := Ground.textOnly Departure.lateStores }, { on := 3, ground := Ground.textOnly Departure.lateStores }, { on := 4, ground := Ground.textOnly Departure.lateStores }, { on := 5, ground := Ground.textOnly Departure.lateStores }, { on := 6, ground := Ground.textOnly Departure.lateStores }, { on := 7, ground := Ground.textOnly Departure.lateStores }, { on := 8, ground := Ground.textOnly Departure.lateStoresUnsure }, { on := 9, ground := Ground.textOnly Departure.lateStores }, { on := 10, ground := Ground.textOnly Departure.lateStores }, { on := 11, ground := Ground.textOnly Departure.lateStores }, { on := 12, ground := Ground.textOnly Departure.lateStores }, { on := 13, ground := Ground.textOnly Departure.lateStores }, { on := 14, ground := Ground.textOnly Departure.lateStoresUnsure }, { on := 15, ground := Ground.textOnly Departure.lateStores }], guard := none }) rfl (fun K hK => ?_) ?_
    rotate_left
    · exact AllReadyH.nil
    rw [if_pos (by rfl)]
    refine wp_store_row 41 (.tmp 6) (.tmp 32) rfl (w.heap.size + 1 + 1) (ints P2) rfl rfl 41 (ints zer97) hz6 (by rw [info41, ints_size, hl2.out]) (by rw [ints_size, ints_size, lz97, hl2.out]) (ints_one _) ?_
    have hp7 := setRow_same (Q := P2) hz6
    have hf7 := setRow_far w6 (w.heap.size + 1 + 1) (ints P2)
    generalize w6.setRow (w.heap.size + 1 + 1) (ints P2) = w7 at hp7 hf7 ⊢
    refine hK.out _ _ ?_ (fun hHeld => ?_)
    · exact ⟨hf7.blk hp6 (fun e => by have e' : w2.heap.size = w.heap.size + 1 + 1 := e; have h1 := hsz2.out; have h2 := hz1.out; omega), by rw [← kt6]; exact World.cell?_of_block (hf7.block _ (World.block_lt_of_cell? _ _ kt6) (fun e => by have e' : w3.heap.size = w.heap.size + 1 + 1 := e; have h1 := h23.out; have h2 := hsz2.out; have h3 := hz1.out; omega))⟩
    clear hK K
    try simp only [Act.put, List.setIfInBounds_toArray, List.set_cons_zero, List.set_cons_succ]
    refine wpAnyH_take (i := 17) (oi := { dst := some 7, op := Op.assign (Operand.tmp 47), type := 4, pos := "law.go:53", after := #[{ on := 15, ground := Ground.data }, { on := 16, ground := Ground.chain }, { on := 0, ground := Ground.phase }, { on := 1, ground := Ground.phase }, { on := 2, ground := Ground.phase }, { on := 3, ground := Ground.phase }, { on := 4, ground := Ground.phase }, { on := 5, ground := Ground.phase }, { on := 6, ground := Ground.phase }, { on := 7, ground := Ground.phase }, { on := 8, ground := Ground.phase }, { on := 9, ground := Ground.phase }, { on := 10, ground := Ground.phase }, { on := 11, ground := Ground.phase }, { on := 12, ground := Ground.phase }, { on := 13, ground := Ground.phase }, { on := 14, ground := Ground.phase }, { on := 15, ground := Ground.phase }, { on := 16, ground := Ground.phase }], guard := none }) (v := ?_) rfl (by kernel_rfl) (by kernel_rfl) (by kernel_rfl) (fun _ _ _ h => h) (Or.inl ⟨by rfl, ?_⟩) (by assumption) ?_
    rotate_left
    · (intro wq hSw; (try dsimp only at hSw); go_simp; try (with_reducible rfl))
    try simp only [Act.put, List.setIfInBounds_toArray, List.set_cons_zero, List.set_cons_succ]
    refine wpAnyH_done (by kernel_rfl) ?_ _
    clear hHeld kt5 kt6
    replace hp7 := Aside0.mk hp7
    replace hf7 := Aside0.mk hf7
    replace hb6 := Aside0.mk hb6
    go_wp2
    all_goals exact bodyPost_ret (results_cell2 rfl _ _ (w.heap.size + 1 + 1) P2 hl2.out rfl hp7.out) rfl ⟨⟨L.set 96 (((y' + 1) % 96 : Nat) : Int), GL_hand hL.out _ (by omega), many_hand hL.out _, by rw [pOf_set96 hL.out.len, ← hP.out, ← hP2.out]; rfl, hf7.out.blk (blk_below (show CS w5.drew g _ from hCg.out) hb6.out) (fun e => by have e' : g = w.heap.size + 1 + 1 := e; have := hgw.out; omega)⟩, ((((Far.of_below hb04.out).then_ (hf5.out.drew.mono (fun k e => e.imp id (fun e => by rw [e]; have h1 := h23.out; have h2 := hsz2.out; have h3 := hz1.out; omega)))).then_ (Far.of_below hb6.out)).then_ (hf7.out.mono (fun k e => .inr (by rw [e]; omega))))⟩
end Go.Proofs.Ytmmnkanijdbgpaa.Hand
