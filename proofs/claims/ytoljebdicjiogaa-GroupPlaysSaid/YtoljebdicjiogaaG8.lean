/- A book's Worst: walked (written by genG7.py). -/
import Derived.Test.YtoljebdicjiogaaG7
import Derived.Deep.RegionLaw
import Derived.Deep.RegionHeld3
import Derived.Deep.DeepCutAuto
namespace Go.Proofs.Ytoljebdicjiogaa.Hand
set_option linter.unusedVariables false
set_option linter.unusedSimpArgs false
open Go.RowKit Go.Maps Go.Proofs.Ytoljebdicjiogaa.R Go.Proofs.YtoljebdicjiogaaW.PrintWords Go.Proofs.YtoljebdicjiogaaW.PrintLast Go.Proofs.YtoljebdicjiogaaW.PrintMore

/-- One number is looked at. -/
def worstS (l : List S30) (s : Int × Bool) (n : Int) : Int × Bool := if (ofG (U l n).1 (U l n).2 ≠ 4 ∧ ofG (U l n).1 (U l n).2 ≠ 0) ∧ (s.2 = false ∨ (U l n).1 ≤ (U l s.1).1) then (n, true) else s
def worstF (l : List S30) (ns : List Int) (s : Int × Bool) : Int × Bool := ns.foldl (worstS l) s
theorem worstF_drop (l : List S30) (ns : List Int) (i : Nat) (hi : i < ns.length) (s : Int × Bool) : worstF l (ns.drop i) s = worstF l (ns.drop (i + 1)) (worstS l s ns[i]) := by
  unfold worstF
  rw [List.drop_eq_getElem_cons hi, List.foldl_cons]
set_option maxHeartbeats 16000000 in
set_option maxRecDepth 100000 in
theorem worst_calls (bb mb n : Nat) (D : DataW Unit) (l : List S30) (w : World) (hB : BK w bb mb n D) (hR : RelD D l) (hn : n ≤ 100000) (hll : l.length ≤ 100000) :
    Calls Try.prog 15 #[.pointer (some ⟨bb, 0, none⟩)] w fun e w' => e = .returned (.tuple #[.int .i64 (worstF l (numL l []) (0, false)).1, .bool (worstF l (numL l []) (0, false)).2]) ∧ Below w.heap.size w w' := by
  have hN := Aside0.mk (numbers_calls bb mb n D l none 0 [] w hB hR hn ⟨rfl, by simp, fun h => absurd h (Nat.lt_irrefl 0)⟩ (Nat.le_refl _) (by simp))
  have hwf : ∀ k ∈ numL l [], 0 ≤ k ∧ k ≤ 4095 ∧ (Lit.int .i64 k).wf = true := fun k hk => wf_num hR hk
  have hlen := Aside0.mk (Nat.le_trans (numL_length l []) hll)
  obtain ⟨ns, hns⟩ : ∃ ns, Aside0 (numL l [] = ns) := ⟨_, ⟨rfl⟩⟩
  replace hB := Aside0.mk hB
  replace hR := Aside0.mk hR
  replace hwf := Aside0.mk hwf
  rw [hns.out] at hN hwf hlen ⊢
  clear hn hll
  go_enter Try.func15, Try.ntmps15
  go_wp2_with (go_at_call 25; refine hN.out.mono ?_; rintro e w1 ⟨A', c', rfl, hC1, hb1⟩; replace hC1 := Aside0.mk hC1; replace hb1 := Aside0.mk hb1)
  go_loopg [4, 5, 13] ns.length (fun kq vb vo vi w' => ∃ (bs : Int) (ok : Bool) (i : Nat), vb = .int .i64 bs ∧ vo = .bool ok ∧ vi = .int .i64 (i : Int) ∧ Aside0 (i + kq = ns.length ∧ (0 ≤ bs ∧ bs ≤ 4095) ∧ worstF l ns (0, false) = worstF l (ns.drop i) (bs, ok)) ∧ Aside0 (Below w1.heap.size w1 w'))
  case atStart => exact ⟨0, false, 0, rfl, rfl, rfl, ⟨by omega, by omega, by simp⟩, ⟨Below.refl _ _⟩⟩
  case round =>
    obtain ⟨bs, ok, i, rfl, rfl, rfl, HK, HB⟩ := hrel
    cases gk with
    | zero =>
      obtain rfl : i = ns.length := by have := HK.out; omega
      have d3 : decide (((ns.length : Nat) : Int) < ((ns.length : Nat) : Int)) = false := decide_eq_false (by omega)
      have r := HK.out.2.2
      rw [List.drop_eq_nil_of_le (Nat.le_refl _)] at r
      replace r := Aside0.mk r
      go_wp2
      go_returns
      rw [r.out]
      exact ⟨rfl, below_step hb1.out HB.out⟩
    | succ k1 =>
      have hi : i < ns.length := by have := HK.out; omega
      have d3 : decide ((i : Int) < ((ns.length : Nat) : Int)) = true := decide_eq_true (by omega)
      have d4 : decide (0 ≤ (i : Int)) = true := decide_eq_true (by omega)
      have d6 : decide (i < ns.length) = true := decide_eq_true hi
      obtain ⟨bd, eB, hc⟩ := elemI (Kd.C_below hC1.out HB.out) i hi
      have hk := hwf.out _ (List.getElem_mem hi)
      have r := HK.out.2.2
      rw [worstF_drop l ns i hi] at r
      generalize ns[i] = k at hc hk r
      subst eB
      have hBw := hB.out.below (below_step hb1.out HB.out)
      have kb : wr.cell? ⟨bb, 0, none⟩ = some (.map (some mb)) := (blk_cell hBw.blk 0).trans rfl
      have hlook := bk_look hBw hR.out k hk.2.2
      have hof := hR.out.U_small k
      have hof2 := hR.out.U_small bs
      have hbw : (Lit.int .i64 bs).wf = true := WalkArith.wf_i64 (by have := HK.out; omega)
      have hlk2 := fun W (hb : BK W bb mb n D) => bk_look hb hR.out bs hbw
      unfold worstS at r
      obtain ⟨u, hu⟩ : ∃ u, u = (U l k).1 := ⟨_, rfl⟩
      obtain ⟨m, hm⟩ : ∃ m, m = (U l k).2 := ⟨_, rfl⟩
      dsimp only at r
      rw [← hu, ← hm] at hlook hof r
      clear hu hm
      obtain ⟨u2, hu2⟩ : ∃ u, u = (U l bs).1 := ⟨_, rfl⟩
      obtain ⟨m2, hm2⟩ : ∃ m, m = (U l bs).2 := ⟨_, rfl⟩
      rw [← hu2, ← hm2] at hlk2 hof2
      rw [← hu2] at r
      clear hu2 hm2
      have ws := Aside0.mk (w64s i (by have := hlen.out; omega))
      have hk4 := Aside0.mk hk
      have hbx : Below wr.heap.size wr (wr.alloc (.cells #[.int .i64 u, .int .i64 m] 51 (0, 0))) := below_alloc (Below.refl _ wr) _
      have hx := blk_new wr (.cells #[.int .i64 u, .int .i64 m] 51 (0, 0))
      have hBx := hBw.below hbx
      have hbx2 := Aside0.mk (below_step HB.out hbx)
      obtain ⟨hb, hhb⟩ : ∃ hb, hb = wr.heap.size := ⟨_, rfl⟩
      go_upto_region 6 with fail
      rw [← hhb] at hx ⊢
      replace hhb := Aside0.mk hhb
      clear hbx
      generalize wr.alloc (.cells #[.int .i64 u, .int .i64 m] 51 (0, 0)) = W0 at hx hBx hbx2 ⊢
      have hS := Aside0.mk (show ∀ W, Below W0.heap.size W0 W → W.cell? ⟨hb, 0, none⟩ = some (.int .i64 u) ∧ W.cell? ⟨hb, 1, none⟩ = some (.int .i64 m) ∧ W.cell? ⟨bb, 0, none⟩ = some (.map (some mb)) ∧ (Instr.lookup 47 (.map (some mb)) (.int .i64 bs) false).run Try.prog W = .ok (.agg #[.int .i64 u2, .int .i64 m2]) W from fun W hW =>
        have hxw := (hW.block _ (blk_lt hx)).trans hx
        have hBW := hBx.below hW
        ⟨(blk_cell hxw 0).trans rfl, (blk_cell hxw 1).trans rfl, (blk_cell hBW.blk 0).trans rfl, hlk2 W hBW⟩)
      obtain ⟨c0, c1, cm, _⟩ := hS.out W0 (Below.refl _ _)
      have clk := (hS.out W0.drew (below_drew (Below.refl _ _))).2.2.2
      have hO := Aside0.mk (fun W (hW : Below W0.heap.size W0 W) => (of_calls u m hof W).mono (fun e w' h => (⟨h.1, below_step hW h.2.below⟩ : _ ∧ Below W0.heap.size W0 w')))
      generalize ofG u m = z at hO r
      have hfld : ∀ wq, (Instr.field 51 (.agg #[.int .i64 u2, .int .i64 m2]) 0).run Try.prog wq = .ok (.int .i64 u2) wq := fun wq => by kernel_rfl
      replace hx := Aside0.mk hx
      clear hof hof2 hlk2 hbw hBx hBw kb hlook hc d4 d6
      by_cases hz4 : z = 4
      · have b4a : (z == 4) = true := beq_iff_eq.mpr hz4
        have b4b : (z != 4) = false := by unfold bne; rw [b4a]; rfl
        have r2 := r.trans (by rw [if_neg (fun h => h.1.1 hz4)])
        replace r2 := Aside0.mk r2
        replace r := Aside0.mk r
        clear hz4
        go_upto_region 7 with (go_at_call 8; refine (hO.out _ (by repeat (first | assumption | exact Below.refl _ _ | refine pw_below_drewN ?_ _ | refine below_drew ?_))).mono ?_; rintro e w2 ⟨rfl, hb2⟩)
        refine wp_region_held_drew (S := (fun w' => w'.cell? ⟨hb, 0, none⟩ = some (.int .i64 u) ∧ w'.cell? ⟨hb, 1, none⟩ = some (.int .i64 m) ∧ w'.cell? ⟨bb, 0, none⟩ = some (.map (some mb)) ∧ (Instr.lookup 47 (.map (some mb)) (.int .i64 bs) false).run Try.prog w' = .ok (.agg #[.int .i64 u2, .int .i64 m2]) w')) (by kernel_rfl) (hS.out w2.drew (below_drew hb2)) (fun hHeld => ?_)
        first
          | (refine wpAnyH_take (i := 0) (oi := { dst := some 28, op := Op.move (Operand.tmp 9), type := 3, pos := "group.go:101", after := #[], guard := none }) (v := undef) rfl (by kernel_rfl) (by kernel_rfl) (by kernel_rfl) (fun _ _ _ h => h) (Or.inr ⟨by rfl, rfl⟩) (by assumption) ?_)
          | (refine wpAnyH_take (i := 0) (oi := { dst := some 28, op := Op.move (Operand.tmp 9), type := 3, pos := "group.go:101", after := #[], guard := none }) (v := ?_) rfl (by kernel_rfl) (by kernel_rfl) (by kernel_rfl) (fun _ _ _ h => h) (Or.inl ⟨by rfl, ?_⟩) (by assumption) ?_; rotate_left; · (intro wq hSw; (try dsimp only at hSw); go_simp; try (with_reducible rfl)))
        try simp only [Act.put, List.setIfInBounds_toArray, List.set_cons_zero, List.set_cons_succ]
        first
          | (refine wpAnyH_take (i := 1) (oi := { dst := some 29, op := Op.binOp BinOp.neq 3 (Operand.tmp 28) (Operand.const (Value.int IntKind.i64 4)) 3, type := 4, pos := "group.go:101", after := #[{ on := 0, ground := Ground.data }], guard := none }) (v := undef) rfl (by kernel_rfl) (by kernel_rfl) (by kernel_rfl) (fun _ _ _ h => h) (Or.inr ⟨by rfl, rfl⟩) (by assumption) ?_)
          | (refine wpAnyH_take (i := 1) (oi := { dst := some 29, op := Op.binOp BinOp.neq 3 (Operand.tmp 28) (Operand.const (Value.int IntKind.i64 4)) 3, type := 4, pos := "group.go:101", after := #[{ on := 0, ground := Ground.data }], guard := none }) (v := ?_) rfl (by kernel_rfl) (by kernel_rfl) (by kernel_rfl) (fun _ _ _ h => h) (Or.inl ⟨by rfl, ?_⟩) (by assumption) ?_; rotate_left; · (intro wq hSw; (try dsimp only at hSw); go_simp; try (with_reducible rfl)))
        try simp only [Act.put, List.setIfInBounds_toArray, List.set_cons_zero, List.set_cons_succ]
        first
          | (refine wpAnyH_take (i := 2) (oi := { dst := some 30, op := Op.move (Operand.tmp 29), type := 4, pos := "group.go:101", after := #[{ on := 1, ground := Ground.data }], guard := none }) (v := undef) rfl (by kernel_rfl) (by kernel_rfl) (by kernel_rfl) (fun _ _ _ h => h) (Or.inr ⟨by rfl, rfl⟩) (by assumption) ?_)
          | (refine wpAnyH_take (i := 2) (oi := { dst := some 30, op := Op.move (Operand.tmp 29), type := 4, pos := "group.go:101", after := #[{ on := 1, ground := Ground.data }], guard := none }) (v := ?_) rfl (by kernel_rfl) (by kernel_rfl) (by kernel_rfl) (fun _ _ _ h => h) (Or.inl ⟨by rfl, ?_⟩) (by assumption) ?_; rotate_left; · (intro wq hSw; (try dsimp only at hSw); go_simp; try (with_reducible rfl)))
        try simp only [Act.put, List.setIfInBounds_toArray, List.set_cons_zero, List.set_cons_succ]
        first
          | (refine wpAnyH_take (i := 3) (oi := { dst := some 31, op := Op.move (Operand.tmp 9), type := 3, pos := "group.go:101", after := #[{ on := 2, ground := Ground.guard }], guard := some (2, true) }) (v := undef) rfl (by kernel_rfl) (by kernel_rfl) (by kernel_rfl) (fun _ _ _ h => h) (Or.inr ⟨by rfl, rfl⟩) (by assumption) ?_)
          | (refine wpAnyH_take (i := 3) (oi := { dst := some 31, op := Op.move (Operand.tmp 9), type := 3, pos := "group.go:101", after := #[{ on := 2, ground := Ground.guard }], guard := some (2, true) }) (v := ?_) rfl (by kernel_rfl) (by kernel_rfl) (by kernel_rfl) (fun _ _ _ h => h) (Or.inl ⟨by rfl, ?_⟩) (by assumption) ?_; rotate_left; · (intro wq hSw; (try dsimp only at hSw); go_simp; try (with_reducible rfl)))
        try simp only [Act.put, List.setIfInBounds_toArray, List.set_cons_zero, List.set_cons_succ]
        first
          | (refine wpAnyH_take (i := 4) (oi := { dst := some 32, op := Op.binOp BinOp.neq 3 (Operand.tmp 31) (Operand.const (Value.int IntKind.i64 0)) 3, type := 4, pos := "group.go:101", after := #[{ on := 3, ground := Ground.data }, { on := 2, ground := Ground.guard }], guard := some (2, true) }) (v := undef) rfl (by kernel_rfl) (by kernel_rfl) (by kernel_rfl) (fun _ _ _ h => h) (Or.inr ⟨by rfl, rfl⟩) (by assumption) ?_)
          | (refine wpAnyH_take (i := 4) (oi := { dst := some 32, op := Op.binOp BinOp.neq 3 (Operand.tmp 31) (Operand.const (Value.int IntKind.i64 0)) 3, type := 4, pos := "group.go:101", after := #[{ on := 3, ground := Ground.data }, { on := 2, ground := Ground.guard }], guard := some (2, true) }) (v := ?_) rfl (by kernel_rfl) (by kernel_rfl) (by kernel_rfl) (fun _ _ _ h => h) (Or.inl ⟨by rfl, ?_⟩) (by assumption) ?_; rotate_left; · (intro wq hSw; (try dsimp only at hSw); go_simp; try (with_reducible rfl)))
        try simp only [Act.put, List.setIfInBounds_toArray, List.set_cons_zero, List.set_cons_succ]
        first
          | (refine wpAnyH_take (i := 5) (oi := { dst := some 33, op := Op.pick (Operand.tmp 30) (Operand.tmp 32) (Operand.const (Value.bool false)), type := 4, pos := "group.go:101", after := #[{ on := 2, ground := Ground.data }, { on := 4, ground := Ground.data }], guard := none }) (v := undef) rfl (by kernel_rfl) (by kernel_rfl) (by kernel_rfl) (fun _ _ _ h => h) (Or.inr ⟨by rfl, rfl⟩) (by assumption) ?_)
          | (refine wpAnyH_take (i := 5) (oi := { dst := some 33, op := Op.pick (Operand.tmp 30) (Operand.tmp 32) (Operand.const (Value.bool false)), type := 4, pos := "group.go:101", after := #[{ on := 2, ground := Ground.data }, { on := 4, ground := Ground.data }], guard := none }) (v := ?_) rfl (by kernel_rfl) (by kernel_rfl) (by kernel_rfl) (fun _ _ _ h => h) (Or.inl ⟨by rfl, ?_⟩) (by assumption) ?_; rotate_left; · (intro wq hSw; (try dsimp only at hSw); go_simp; try (with_reducible rfl)))
        try simp only [Act.put, List.setIfInBounds_toArray, List.set_cons_zero, List.set_cons_succ]
        first
          | (refine wpAnyH_take (i := 6) (oi := { dst := some 34, op := Op.move (Operand.tmp 33), type := 4, pos := "group.go:101", after := #[{ on := 5, ground := Ground.data }, { on := 2, ground := Ground.chain }], guard := none }) (v := undef) rfl (by kernel_rfl) (by kernel_rfl) (by kernel_rfl) (fun _ _ _ h => h) (Or.inr ⟨by rfl, rfl⟩) (by assumption) ?_)
          | (refine wpAnyH_take (i := 6) (oi := { dst := some 34, op := Op.move (Operand.tmp 33), type := 4, pos := "group.go:101", after := #[{ on := 5, ground := Ground.data }, { on := 2, ground := Ground.chain }], guard := none }) (v := ?_) rfl (by kernel_rfl) (by kernel_rfl) (by kernel_rfl) (fun _ _ _ h => h) (Or.inl ⟨by rfl, ?_⟩) (by assumption) ?_; rotate_left; · (intro wq hSw; (try dsimp only at hSw); go_simp; try (with_reducible rfl)))
        try simp only [Act.put, List.setIfInBounds_toArray, List.set_cons_zero, List.set_cons_succ]
        first
          | (refine wpAnyH_take (i := 7) (oi := { dst := some 35, op := Op.move (Operand.tmp 5), type := 4, pos := "group.go:101", after := #[{ on := 6, ground := Ground.guard }], guard := some (6, true) }) (v := undef) rfl (by kernel_rfl) (by kernel_rfl) (by kernel_rfl) (fun _ _ _ h => h) (Or.inr ⟨by rfl, rfl⟩) (by assumption) ?_)
          | (refine wpAnyH_take (i := 7) (oi := { dst := some 35, op := Op.move (Operand.tmp 5), type := 4, pos := "group.go:101", after := #[{ on := 6, ground := Ground.guard }], guard := some (6, true) }) (v := ?_) rfl (by kernel_rfl) (by kernel_rfl) (by kernel_rfl) (fun _ _ _ h => h) (Or.inl ⟨by rfl, ?_⟩) (by assumption) ?_; rotate_left; · (intro wq hSw; (try dsimp only at hSw); go_simp; try (with_reducible rfl)))
        try simp only [Act.put, List.setIfInBounds_toArray, List.set_cons_zero, List.set_cons_succ]
        first
          | (refine wpAnyH_take (i := 8) (oi := { dst := some 36, op := Op.unOp UnOp.not 4 (Operand.tmp 35), type := 4, pos := "group.go:101", after := #[{ on := 7, ground := Ground.data }, { on := 6, ground := Ground.guard }], guard := some (6, true) }) (v := undef) rfl (by kernel_rfl) (by kernel_rfl) (by kernel_rfl) (fun _ _ _ h => h) (Or.inr ⟨by rfl, rfl⟩) (by assumption) ?_)
          | (refine wpAnyH_take (i := 8) (oi := { dst := some 36, op := Op.unOp UnOp.not 4 (Operand.tmp 35), type := 4, pos := "group.go:101", after := #[{ on := 7, ground := Ground.data }, { on := 6, ground := Ground.guard }], guard := some (6, true) }) (v := ?_) rfl (by kernel_rfl) (by kernel_rfl) (by kernel_rfl) (fun _ _ _ h => h) (Or.inl ⟨by rfl, ?_⟩) (by assumption) ?_; rotate_left; · (intro wq hSw; (try dsimp only at hSw); go_simp; try (with_reducible rfl)))
        try simp only [Act.put, List.setIfInBounds_toArray, List.set_cons_zero, List.set_cons_succ]
        first
          | (refine wpAnyH_take (i := 9) (oi := { dst := some 37, op := Op.move (Operand.tmp 36), type := 4, pos := "group.go:101", after := #[{ on := 8, ground := Ground.data }, { on := 6, ground := Ground.chain }, { on := 6, ground := Ground.guard }], guard := some (6, true) }) (v := undef) rfl (by kernel_rfl) (by kernel_rfl) (by kernel_rfl) (fun _ _ _ h => h) (Or.inr ⟨by rfl, rfl⟩) (by assumption) ?_)
          | (refine wpAnyH_take (i := 9) (oi := { dst := some 37, op := Op.move (Operand.tmp 36), type := 4, pos := "group.go:101", after := #[{ on := 8, ground := Ground.data }, { on := 6, ground := Ground.chain }, { on := 6, ground := Ground.guard }], guard := some (6, true) }) (v := ?_) rfl (by kernel_rfl) (by kernel_rfl) (by kernel_rfl) (fun _ _ _ h => h) (Or.inl ⟨by rfl, ?_⟩) (by assumption) ?_; rotate_left; · (intro wq hSw; (try dsimp only at hSw); go_simp; try (with_reducible rfl)))
        try simp only [Act.put, List.setIfInBounds_toArray, List.set_cons_zero, List.set_cons_succ]
        first
          | (refine wpAnyH_take (i := 10) (oi := { dst := some 38, op := Op.fieldAddr 51 (Operand.tmp 8) 0, type := 0, pos := "group.go:101", after := #[{ on := 9, ground := Ground.guard }], guard := some (9, false) }) (v := undef) rfl (by kernel_rfl) (by kernel_rfl) (by kernel_rfl) (fun _ _ _ h => h) (Or.inr ⟨by rfl, rfl⟩) (by assumption) ?_)
          | (refine wpAnyH_take (i := 10) (oi := { dst := some 38, op := Op.fieldAddr 51 (Operand.tmp 8) 0, type := 0, pos := "group.go:101", after := #[{ on := 9, ground := Ground.guard }], guard := some (9, false) }) (v := ?_) rfl (by kernel_rfl) (by kernel_rfl) (by kernel_rfl) (fun _ _ _ h => h) (Or.inl ⟨by rfl, ?_⟩) (by assumption) ?_; rotate_left; · (intro wq hSw; (try dsimp only at hSw); go_simp; try (with_reducible rfl)))
        try simp only [Act.put, List.setIfInBounds_toArray, List.set_cons_zero, List.set_cons_succ]
        first
          | (refine wpAnyH_take (i := 11) (oi := { dst := some 39, op := Op.load 3 (Operand.tmp 38), type := 3, pos := "group.go:101", after := #[{ on := 10, ground := Ground.data }, { on := 9, ground := Ground.guard }], guard := some (9, false) }) (v := undef) rfl (by kernel_rfl) (by kernel_rfl) (by kernel_rfl) (fun _ _ _ h => h) (Or.inr ⟨by rfl, rfl⟩) (by assumption) ?_)
          | (refine wpAnyH_take (i := 11) (oi := { dst := some 39, op := Op.load 3 (Operand.tmp 38), type := 3, pos := "group.go:101", after := #[{ on := 10, ground := Ground.data }, { on := 9, ground := Ground.guard }], guard := some (9, false) }) (v := ?_) rfl (by kernel_rfl) (by kernel_rfl) (by kernel_rfl) (fun _ _ _ h => h) (Or.inl ⟨by rfl, ?_⟩) (by assumption) ?_; rotate_left; · (intro wq hSw; (try dsimp only at hSw); go_simp; try (with_reducible rfl)))
        try simp only [Act.put, List.setIfInBounds_toArray, List.set_cons_zero, List.set_cons_succ]
        first
          | (refine wpAnyH_take (i := 12) (oi := { dst := some 40, op := Op.move (Operand.tmp 0), type := 27, pos := "group.go:101", after := #[{ on := 9, ground := Ground.guard }], guard := some (9, false) }) (v := undef) rfl (by kernel_rfl) (by kernel_rfl) (by kernel_rfl) (fun _ _ _ h => h) (Or.inr ⟨by rfl, rfl⟩) (by assumption) ?_)
          | (refine wpAnyH_take (i := 12) (oi := { dst := some 40, op := Op.move (Operand.tmp 0), type := 27, pos := "group.go:101", after := #[{ on := 9, ground := Ground.guard }], guard := some (9, false) }) (v := ?_) rfl (by kernel_rfl) (by kernel_rfl) (by kernel_rfl) (fun _ _ _ h => h) (Or.inl ⟨by rfl, ?_⟩) (by assumption) ?_; rotate_left; · (intro wq hSw; (try dsimp only at hSw); go_simp; try (with_reducible rfl)))
        try simp only [Act.put, List.setIfInBounds_toArray, List.set_cons_zero, List.set_cons_succ]
        first
          | (refine wpAnyH_take (i := 13) (oi := { dst := some 41, op := Op.nilCheck (Operand.tmp 40), type := 0, pos := "group.go:101", after := #[{ on := 12, ground := Ground.data }, { on := 9, ground := Ground.guard }], guard := some (9, false) }) (v := undef) rfl (by kernel_rfl) (by kernel_rfl) (by kernel_rfl) (fun _ _ _ h => h) (Or.inr ⟨by rfl, rfl⟩) (by assumption) ?_)
          | (refine wpAnyH_take (i := 13) (oi := { dst := some 41, op := Op.nilCheck (Operand.tmp 40), type := 0, pos := "group.go:101", after := #[{ on := 12, ground := Ground.data }, { on := 9, ground := Ground.guard }], guard := some (9, false) }) (v := ?_) rfl (by kernel_rfl) (by kernel_rfl) (by kernel_rfl) (fun _ _ _ h => h) (Or.inl ⟨by rfl, ?_⟩) (by assumption) ?_; rotate_left; · (intro wq hSw; (try dsimp only at hSw); go_simp; try (with_reducible rfl)))
        try simp only [Act.put, List.setIfInBounds_toArray, List.set_cons_zero, List.set_cons_succ]
        first
          | (refine wpAnyH_take (i := 14) (oi := { dst := some 42, op := Op.fieldAddr 49 (Operand.tmp 41) 0, type := 0, pos := "group.go:101", after := #[{ on := 13, ground := Ground.data }, { on := 9, ground := Ground.guard }], guard := some (9, false) }) (v := undef) rfl (by kernel_rfl) (by kernel_rfl) (by kernel_rfl) (fun _ _ _ h => h) (Or.inr ⟨by rfl, rfl⟩) (by assumption) ?_)
          | (refine wpAnyH_take (i := 14) (oi := { dst := some 42, op := Op.fieldAddr 49 (Operand.tmp 41) 0, type := 0, pos := "group.go:101", after := #[{ on := 13, ground := Ground.data }, { on := 9, ground := Ground.guard }], guard := some (9, false) }) (v := ?_) rfl (by kernel_rfl) (by kernel_rfl) (by kernel_rfl) (fun _ _ _ h => h) (Or.inl ⟨by rfl, ?_⟩) (by assumption) ?_; rotate_left; · (intro wq hSw; (try dsimp only at hSw); go_simp; try (with_reducible rfl)))
        try simp only [Act.put, List.setIfInBounds_toArray, List.set_cons_zero, List.set_cons_succ]
        first
          | (refine wpAnyH_take (i := 15) (oi := { dst := some 43, op := Op.load 47 (Operand.tmp 42), type := 47, pos := "group.go:101", after := #[{ on := 14, ground := Ground.data }, { on := 9, ground := Ground.guard }], guard := some (9, false) }) (v := undef) rfl (by kernel_rfl) (by kernel_rfl) (by kernel_rfl) (fun _ _ _ h => h) (Or.inr ⟨by rfl, rfl⟩) (by assumption) ?_)
          | (refine wpAnyH_take (i := 15) (oi := { dst := some 43, op := Op.load 47 (Operand.tmp 42), type := 47, pos := "group.go:101", after := #[{ on := 14, ground := Ground.data }, { on := 9, ground := Ground.guard }], guard := some (9, false) }) (v := ?_) rfl (by kernel_rfl) (by kernel_rfl) (by kernel_rfl) (fun _ _ _ h => h) (Or.inl ⟨by rfl, ?_⟩) (by assumption) ?_; rotate_left; · (intro wq hSw; (try dsimp only at hSw); go_simp; try (with_reducible rfl)))
        try simp only [Act.put, List.setIfInBounds_toArray, List.set_cons_zero, List.set_cons_succ]
        first
          | (refine wpAnyH_take (i := 16) (oi := { dst := some 44, op := Op.move (Operand.tmp 4), type := 3, pos := "group.go:101", after := #[{ on := 9, ground := Ground.guard }], guard := some (9, false) }) (v := undef) rfl (by kernel_rfl) (by kernel_rfl) (by kernel_rfl) (fun _ _ _ h => h) (Or.inr ⟨by rfl, rfl⟩) (by assumption) ?_)
          | (refine wpAnyH_take (i := 16) (oi := { dst := some 44, op := Op.move (Operand.tmp 4), type := 3, pos := "group.go:101", after := #[{ on := 9, ground := Ground.guard }], guard := some (9, false) }) (v := ?_) rfl (by kernel_rfl) (by kernel_rfl) (by kernel_rfl) (fun _ _ _ h => h) (Or.inl ⟨by rfl, ?_⟩) (by assumption) ?_; rotate_left; · (intro wq hSw; (try dsimp only at hSw); go_simp; try (with_reducible rfl)))
        try simp only [Act.put, List.setIfInBounds_toArray, List.set_cons_zero, List.set_cons_succ]
        first
          | (refine wpAnyH_take (i := 17) (oi := { dst := some 45, op := Op.lookup 47 (Operand.tmp 43) (Operand.tmp 44) false, type := 51, pos := "group.go:101", after := #[{ on := 15, ground := Ground.data }, { on := 16, ground := Ground.data }, { on := 9, ground := Ground.guard }], guard := some (9, false) }) (v := undef) rfl (by kernel_rfl) (by kernel_rfl) (by kernel_rfl) (fun _ _ _ h => h) (Or.inr ⟨by rfl, rfl⟩) (by assumption) ?_)
          | (refine wpAnyH_take (i := 17) (oi := { dst := some 45, op := Op.lookup 47 (Operand.tmp 43) (Operand.tmp 44) false, type := 51, pos := "group.go:101", after := #[{ on := 15, ground := Ground.data }, { on := 16, ground := Ground.data }, { on := 9, ground := Ground.guard }], guard := some (9, false) }) (v := ?_) rfl (by kernel_rfl) (by kernel_rfl) (by kernel_rfl) (fun _ _ _ h => h) (Or.inl ⟨by rfl, ?_⟩) (by assumption) ?_; rotate_left; · (intro wq hSw; (try dsimp only at hSw); go_simp; try (with_reducible rfl)))
        try simp only [Act.put, List.setIfInBounds_toArray, List.set_cons_zero, List.set_cons_succ]
        first
          | (refine wpAnyH_take (i := 18) (oi := { dst := some 46, op := Op.field 51 (Operand.tmp 45) 0, type := 3, pos := "group.go:101", after := #[{ on := 17, ground := Ground.data }, { on := 9, ground := Ground.guard }], guard := some (9, false) }) (v := undef) rfl (by kernel_rfl) (by kernel_rfl) (by kernel_rfl) (fun _ _ _ h => h) (Or.inr ⟨by rfl, rfl⟩) (by assumption) ?_)
          | (refine wpAnyH_take (i := 18) (oi := { dst := some 46, op := Op.field 51 (Operand.tmp 45) 0, type := 3, pos := "group.go:101", after := #[{ on := 17, ground := Ground.data }, { on := 9, ground := Ground.guard }], guard := some (9, false) }) (v := ?_) rfl (by kernel_rfl) (by kernel_rfl) (by kernel_rfl) (fun _ _ _ h => h) (Or.inl ⟨by rfl, ?_⟩) (by assumption) ?_; rotate_left; · (intro wq hSw; (try dsimp only at hSw); go_simp; try (with_reducible rfl)))
        try simp only [Act.put, List.setIfInBounds_toArray, List.set_cons_zero, List.set_cons_succ]
        first
          | (refine wpAnyH_take (i := 19) (oi := { dst := some 47, op := Op.binOp BinOp.leq 3 (Operand.tmp 39) (Operand.tmp 46) 3, type := 4, pos := "group.go:101", after := #[{ on := 11, ground := Ground.data }, { on := 18, ground := Ground.data }, { on := 9, ground := Ground.guard }], guard := some (9, false) }) (v := undef) rfl (by kernel_rfl) (by kernel_rfl) (by kernel_rfl) (fun _ _ _ h => h) (Or.inr ⟨by rfl, rfl⟩) (by assumption) ?_)
          | (refine wpAnyH_take (i := 19) (oi := { dst := some 47, op := Op.binOp BinOp.leq 3 (Operand.tmp 39) (Operand.tmp 46) 3, type := 4, pos := "group.go:101", after := #[{ on := 11, ground := Ground.data }, { on := 18, ground := Ground.data }, { on := 9, ground := Ground.guard }], guard := some (9, false) }) (v := ?_) rfl (by kernel_rfl) (by kernel_rfl) (by kernel_rfl) (fun _ _ _ h => h) (Or.inl ⟨by rfl, ?_⟩) (by assumption) ?_; rotate_left; · (intro wq hSw; (try dsimp only at hSw); go_simp; try (with_reducible rfl)))
        try simp only [Act.put, List.setIfInBounds_toArray, List.set_cons_zero, List.set_cons_succ]
        first
          | (refine wpAnyH_take (i := 20) (oi := { dst := some 48, op := Op.pick (Operand.tmp 37) (Operand.const (Value.bool true)) (Operand.tmp 47), type := 4, pos := "group.go:101", after := #[{ on := 9, ground := Ground.data }, { on := 19, ground := Ground.data }, { on := 6, ground := Ground.guard }], guard := some (6, true) }) (v := undef) rfl (by kernel_rfl) (by kernel_rfl) (by kernel_rfl) (fun _ _ _ h => h) (Or.inr ⟨by rfl, rfl⟩) (by assumption) ?_)
          | (refine wpAnyH_take (i := 20) (oi := { dst := some 48, op := Op.pick (Operand.tmp 37) (Operand.const (Value.bool true)) (Operand.tmp 47), type := 4, pos := "group.go:101", after := #[{ on := 9, ground := Ground.data }, { on := 19, ground := Ground.data }, { on := 6, ground := Ground.guard }], guard := some (6, true) }) (v := ?_) rfl (by kernel_rfl) (by kernel_rfl) (by kernel_rfl) (fun _ _ _ h => h) (Or.inl ⟨by rfl, ?_⟩) (by assumption) ?_; rotate_left; · (intro wq hSw; (try dsimp only at hSw); go_simp; try (with_reducible rfl)))
        try simp only [Act.put, List.setIfInBounds_toArray, List.set_cons_zero, List.set_cons_succ]
        first
          | (refine wpAnyH_take (i := 21) (oi := { dst := some 49, op := Op.pick (Operand.tmp 34) (Operand.tmp 48) (Operand.const (Value.bool false)), type := 4, pos := "group.go:101", after := #[{ on := 6, ground := Ground.data }, { on := 20, ground := Ground.data }], guard := none }) (v := undef) rfl (by kernel_rfl) (by kernel_rfl) (by kernel_rfl) (fun _ _ _ h => h) (Or.inr ⟨by rfl, rfl⟩) (by assumption) ?_)
          | (refine wpAnyH_take (i := 21) (oi := { dst := some 49, op := Op.pick (Operand.tmp 34) (Operand.tmp 48) (Operand.const (Value.bool false)), type := 4, pos := "group.go:101", after := #[{ on := 6, ground := Ground.data }, { on := 20, ground := Ground.data }], guard := none }) (v := ?_) rfl (by kernel_rfl) (by kernel_rfl) (by kernel_rfl) (fun _ _ _ h => h) (Or.inl ⟨by rfl, ?_⟩) (by assumption) ?_; rotate_left; · (intro wq hSw; (try dsimp only at hSw); go_simp; try (with_reducible rfl)))
        try simp only [Act.put, List.setIfInBounds_toArray, List.set_cons_zero, List.set_cons_succ]
        refine wpAnyH_done (by kernel_rfl) ?_ _
        clear c0 c1 cm clk
        clear hHeld
        go_wp2
        go_roundg k1
        case measure => omega
        case rel => exact ⟨bs, ok, i + 1, rfl, rfl, by rw [ws.out], ⟨by have := HK.out; omega, ⟨HK.out.2.1.1, HK.out.2.1.2⟩, r2.out⟩, ⟨below_step hbx2.out (by repeat (first | assumption | exact Below.refl _ _ | refine pw_below_drewN ?_ _ | refine below_drew ?_))⟩⟩
      · have b4a : (z == 4) = false := beq_eq_false_iff_ne.mpr hz4
        have b4b : (z != 4) = true := by unfold bne; rw [b4a]; rfl
        by_cases hz0 : z = 0
        · have b0a : (z == 0) = true := beq_iff_eq.mpr hz0
          have b0b : (z != 0) = false := by unfold bne; rw [b0a]; rfl
          have r2 := r.trans (by rw [if_neg (fun h => h.1.2 hz0)])
          replace r2 := Aside0.mk r2
          replace r := Aside0.mk r
          clear hz4 hz0
          go_upto_region 7 with (go_at_call 8; refine (hO.out _ (by repeat (first | assumption | exact Below.refl _ _ | refine pw_below_drewN ?_ _ | refine below_drew ?_))).mono ?_; rintro e w2 ⟨rfl, hb2⟩)
          refine wp_region_held_drew (S := (fun w' => w'.cell? ⟨hb, 0, none⟩ = some (.int .i64 u) ∧ w'.cell? ⟨hb, 1, none⟩ = some (.int .i64 m) ∧ w'.cell? ⟨bb, 0, none⟩ = some (.map (some mb)) ∧ (Instr.lookup 47 (.map (some mb)) (.int .i64 bs) false).run Try.prog w' = .ok (.agg #[.int .i64 u2, .int .i64 m2]) w')) (by kernel_rfl) (hS.out w2.drew (below_drew hb2)) (fun hHeld => ?_)
          first
            | (refine wpAnyH_take (i := 0) (oi := { dst := some 28, op := Op.move (Operand.tmp 9), type := 3, pos := "group.go:101", after := #[], guard := none }) (v := undef) rfl (by kernel_rfl) (by kernel_rfl) (by kernel_rfl) (fun _ _ _ h => h) (Or.inr ⟨by rfl, rfl⟩) (by assumption) ?_)
            | (refine wpAnyH_take (i := 0) (oi := { dst := some 28, op := Op.move (Operand.tmp 9), type := 3, pos := "group.go:101", after := #[], guard := none }) (v := ?_) rfl (by kernel_rfl) (by kernel_rfl) (by kernel_rfl) (fun _ _ _ h => h) (Or.inl ⟨by rfl, ?_⟩) (by assumption) ?_; rotate_left; · (intro wq hSw; (try dsimp only at hSw); go_simp; try (with_reducible rfl)))
          try simp only [Act.put, List.setIfInBounds_toArray, List.set_cons_zero, List.set_cons_succ]
          first
            | (refine wpAnyH_take (i := 1) (oi := { dst := some 29, op := Op.binOp BinOp.neq 3 (Operand.tmp 28) (Operand.const (Value.int IntKind.i64 4)) 3, type := 4, pos := "group.go:101", after := #[{ on := 0, ground := Ground.data }], guard := none }) (v := undef) rfl (by kernel_rfl) (by kernel_rfl) (by kernel_rfl) (fun _ _ _ h => h) (Or.inr ⟨by rfl, rfl⟩) (by assumption) ?_)
            | (refine wpAnyH_take (i := 1) (oi := { dst := some 29, op := Op.binOp BinOp.neq 3 (Operand.tmp 28) (Operand.const (Value.int IntKind.i64 4)) 3, type := 4, pos := "group.go:101", after := #[{ on := 0, ground := Ground.data }], guard := none }) (v := ?_) rfl (by kernel_rfl) (by kernel_rfl) (by kernel_rfl) (fun _ _ _ h => h) (Or.inl ⟨by rfl, ?_⟩) (by assumption) ?_; rotate_left; · (intro wq hSw; (try dsimp only at hSw); go_simp; try (with_reducible rfl)))
          try simp only [Act.put, List.setIfInBounds_toArray, List.set_cons_zero, List.set_cons_succ]
          first
            | (refine wpAnyH_take (i := 2) (oi := { dst := some 30, op := Op.move (Operand.tmp 29), type := 4, pos := "group.go:101", after := #[{ on := 1, ground := Ground.data }], guard := none }) (v := undef) rfl (by kernel_rfl) (by kernel_rfl) (by kernel_rfl) (fun _ _ _ h => h) (Or.inr ⟨by rfl, rfl⟩) (by assumption) ?_)
            | (refine wpAnyH_take (i := 2) (oi := { dst := some 30, op := Op.move (Operand.tmp 29), type := 4, pos := "group.go:101", after := #[{ on := 1, ground := Ground.data }], guard := none }) (v := ?_) rfl (by kernel_rfl) (by kernel_rfl) (by kernel_rfl) (fun _ _ _ h => h) (Or.inl ⟨by rfl, ?_⟩) (by assumption) ?_; rotate_left; · (intro wq hSw; (try dsimp only at hSw); go_simp; try (with_reducible rfl)))
          try simp only [Act.put, List.setIfInBounds_toArray, List.set_cons_zero, List.set_cons_succ]
          first
            | (refine wpAnyH_take (i := 3) (oi := { dst := some 31, op := Op.move (Operand.tmp 9), type := 3, pos := "group.go:101", after := #[{ on := 2, ground := Ground.guard }], guard := some (2, true) }) (v := undef) rfl (by kernel_rfl) (by kernel_rfl) (by kernel_rfl) (fun _ _ _ h => h) (Or.inr ⟨by rfl, rfl⟩) (by assumption) ?_)
            | (refine wpAnyH_take (i := 3) (oi := { dst := some 31, op := Op.move (Operand.tmp 9), type := 3, pos := "group.go:101", after := #[{ on := 2, ground := Ground.guard }], guard := some (2, true) }) (v := ?_) rfl (by kernel_rfl) (by kernel_rfl) (by kernel_rfl) (fun _ _ _ h => h) (Or.inl ⟨by rfl, ?_⟩) (by assumption) ?_; rotate_left; · (intro wq hSw; (try dsimp only at hSw); go_simp; try (with_reducible rfl)))
          try simp only [Act.put, List.setIfInBounds_toArray, List.set_cons_zero, List.set_cons_succ]
          first
            | (refine wpAnyH_take (i := 4) (oi := { dst := some 32, op := Op.binOp BinOp.neq 3 (Operand.tmp 31) (Operand.const (Value.int IntKind.i64 0)) 3, type := 4, pos := "group.go:101", after := #[{ on := 3, ground := Ground.data }, { on := 2, ground := Ground.guard }], guard := some (2, true) }) (v := undef) rfl (by kernel_rfl) (by kernel_rfl) (by kernel_rfl) (fun _ _ _ h => h) (Or.inr ⟨by rfl, rfl⟩) (by assumption) ?_)
            | (refine wpAnyH_take (i := 4) (oi := { dst := some 32, op := Op.binOp BinOp.neq 3 (Operand.tmp 31) (Operand.const (Value.int IntKind.i64 0)) 3, type := 4, pos := "group.go:101", after := #[{ on := 3, ground := Ground.data }, { on := 2, ground := Ground.guard }], guard := some (2, true) }) (v := ?_) rfl (by kernel_rfl) (by kernel_rfl) (by kernel_rfl) (fun _ _ _ h => h) (Or.inl ⟨by rfl, ?_⟩) (by assumption) ?_; rotate_left; · (intro wq hSw; (try dsimp only at hSw); go_simp; try (with_reducible rfl)))
          try simp only [Act.put, List.setIfInBounds_toArray, List.set_cons_zero, List.set_cons_succ]
          first
            | (refine wpAnyH_take (i := 5) (oi := { dst := some 33, op := Op.pick (Operand.tmp 30) (Operand.tmp 32) (Operand.const (Value.bool false)), type := 4, pos := "group.go:101", after := #[{ on := 2, ground := Ground.data }, { on := 4, ground := Ground.data }], guard := none }) (v := undef) rfl (by kernel_rfl) (by kernel_rfl) (by kernel_rfl) (fun _ _ _ h => h) (Or.inr ⟨by rfl, rfl⟩) (by assumption) ?_)
            | (refine wpAnyH_take (i := 5) (oi := { dst := some 33, op := Op.pick (Operand.tmp 30) (Operand.tmp 32) (Operand.const (Value.bool false)), type := 4, pos := "group.go:101", after := #[{ on := 2, ground := Ground.data }, { on := 4, ground := Ground.data }], guard := none }) (v := ?_) rfl (by kernel_rfl) (by kernel_rfl) (by kernel_rfl) (fun _ _ _ h => h) (Or.inl ⟨by rfl, ?_⟩) (by assumption) ?_; rotate_left; · (intro wq hSw; (try dsimp only at hSw); go_simp; try (with_reducible rfl)))
          try simp only [Act.put, List.setIfInBounds_toArray, List.set_cons_zero, List.set_cons_succ]
          first
            | (refine wpAnyH_take (i := 6) (oi := { dst := some 34, op := Op.move (Operand.tmp 33), type := 4, pos := "group.go:101", after := #[{ on := 5, ground := Ground.data }, { on := 2, ground := Ground.chain }], guard := none }) (v := undef) rfl (by kernel_rfl) (by kernel_rfl) (by kernel_rfl) (fun _ _ _ h => h) (Or.inr ⟨by rfl, rfl⟩) (by assumption) ?_)
            | (refine wpAnyH_take (i := 6) (oi := { dst := some 34, op := Op.move (Operand.tmp 33), type := 4, pos := "group.go:101", after := #[{ on := 5, ground := Ground.data }, { on := 2, ground := Ground.chain }], guard := none }) (v := ?_) rfl (by kernel_rfl) (by kernel_rfl) (by kernel_rfl) (fun _ _ _ h => h) (Or.inl ⟨by rfl, ?_⟩) (by assumption) ?_; rotate_left; · (intro wq hSw; (try dsimp only at hSw); go_simp; try (with_reducible rfl)))
          try simp only [Act.put, List.setIfInBounds_toArray, List.set_cons_zero, List.set_cons_succ]
          first
            | (refine wpAnyH_take (i := 7) (oi := { dst := some 35, op := Op.move (Operand.tmp 5), type := 4, pos := "group.go:101", after := #[{ on := 6, ground := Ground.guard }], guard := some (6, true) }) (v := undef) rfl (by kernel_rfl) (by kernel_rfl) (by kernel_rfl) (fun _ _ _ h => h) (Or.inr ⟨by rfl, rfl⟩) (by assumption) ?_)
            | (refine wpAnyH_take (i := 7) (oi := { dst := some 35, op := Op.move (Operand.tmp 5), type := 4, pos := "group.go:101", after := #[{ on := 6, ground := Ground.guard }], guard := some (6, true) }) (v := ?_) rfl (by kernel_rfl) (by kernel_rfl) (by kernel_rfl) (fun _ _ _ h => h) (Or.inl ⟨by rfl, ?_⟩) (by assumption) ?_; rotate_left; · (intro wq hSw; (try dsimp only at hSw); go_simp; try (with_reducible rfl)))
          try simp only [Act.put, List.setIfInBounds_toArray, List.set_cons_zero, List.set_cons_succ]
          first
            | (refine wpAnyH_take (i := 8) (oi := { dst := some 36, op := Op.unOp UnOp.not 4 (Operand.tmp 35), type := 4, pos := "group.go:101", after := #[{ on := 7, ground := Ground.data }, { on := 6, ground := Ground.guard }], guard := some (6, true) }) (v := undef) rfl (by kernel_rfl) (by kernel_rfl) (by kernel_rfl) (fun _ _ _ h => h) (Or.inr ⟨by rfl, rfl⟩) (by assumption) ?_)
            | (refine wpAnyH_take (i := 8) (oi := { dst := some 36, op := Op.unOp UnOp.not 4 (Operand.tmp 35), type := 4, pos := "group.go:101", after := #[{ on := 7, ground := Ground.data }, { on := 6, ground := Ground.guard }], guard := some (6, true) }) (v := ?_) rfl (by kernel_rfl) (by kernel_rfl) (by kernel_rfl) (fun _ _ _ h => h) (Or.inl ⟨by rfl, ?_⟩) (by assumption) ?_; rotate_left; · (intro wq hSw; (try dsimp only at hSw); go_simp; try (with_reducible rfl)))
          try simp only [Act.put, List.setIfInBounds_toArray, List.set_cons_zero, List.set_cons_succ]
          first
            | (refine wpAnyH_take (i := 9) (oi := { dst := some 37, op := Op.move (Operand.tmp 36), type := 4, pos := "group.go:101", after := #[{ on := 8, ground := Ground.data }, { on := 6, ground := Ground.chain }, { on := 6, ground := Ground.guard }], guard := some (6, true) }) (v := undef) rfl (by kernel_rfl) (by kernel_rfl) (by kernel_rfl) (fun _ _ _ h => h) (Or.inr ⟨by rfl, rfl⟩) (by assumption) ?_)
            | (refine wpAnyH_take (i := 9) (oi := { dst := some 37, op := Op.move (Operand.tmp 36), type := 4, pos := "group.go:101", after := #[{ on := 8, ground := Ground.data }, { on := 6, ground := Ground.chain }, { on := 6, ground := Ground.guard }], guard := some (6, true) }) (v := ?_) rfl (by kernel_rfl) (by kernel_rfl) (by kernel_rfl) (fun _ _ _ h => h) (Or.inl ⟨by rfl, ?_⟩) (by assumption) ?_; rotate_left; · (intro wq hSw; (try dsimp only at hSw); go_simp; try (with_reducible rfl)))
          try simp only [Act.put, List.setIfInBounds_toArray, List.set_cons_zero, List.set_cons_succ]
          first
            | (refine wpAnyH_take (i := 10) (oi := { dst := some 38, op := Op.fieldAddr 51 (Operand.tmp 8) 0, type := 0, pos := "group.go:101", after := #[{ on := 9, ground := Ground.guard }], guard := some (9, false) }) (v := undef) rfl (by kernel_rfl) (by kernel_rfl) (by kernel_rfl) (fun _ _ _ h => h) (Or.inr ⟨by rfl, rfl⟩) (by assumption) ?_)
            | (refine wpAnyH_take (i := 10) (oi := { dst := some 38, op := Op.fieldAddr 51 (Operand.tmp 8) 0, type := 0, pos := "group.go:101", after := #[{ on := 9, ground := Ground.guard }], guard := some (9, false) }) (v := ?_) rfl (by kernel_rfl) (by kernel_rfl) (by kernel_rfl) (fun _ _ _ h => h) (Or.inl ⟨by rfl, ?_⟩) (by assumption) ?_; rotate_left; · (intro wq hSw; (try dsimp only at hSw); go_simp; try (with_reducible rfl)))
          try simp only [Act.put, List.setIfInBounds_toArray, List.set_cons_zero, List.set_cons_succ]
          first
            | (refine wpAnyH_take (i := 11) (oi := { dst := some 39, op := Op.load 3 (Operand.tmp 38), type := 3, pos := "group.go:101", after := #[{ on := 10, ground := Ground.data }, { on := 9, ground := Ground.guard }], guard := some (9, false) }) (v := undef) rfl (by kernel_rfl) (by kernel_rfl) (by kernel_rfl) (fun _ _ _ h => h) (Or.inr ⟨by rfl, rfl⟩) (by assumption) ?_)
            | (refine wpAnyH_take (i := 11) (oi := { dst := some 39, op := Op.load 3 (Operand.tmp 38), type := 3, pos := "group.go:101", after := #[{ on := 10, ground := Ground.data }, { on := 9, ground := Ground.guard }], guard := some (9, false) }) (v := ?_) rfl (by kernel_rfl) (by kernel_rfl) (by kernel_rfl) (fun _ _ _ h => h) (Or.inl ⟨by rfl, ?_⟩) (by assumption) ?_; rotate_left; · (intro wq hSw; (try dsimp only at hSw); go_simp; try (with_reducible rfl)))
          try simp only [Act.put, List.setIfInBounds_toArray, List.set_cons_zero, List.set_cons_succ]
          first
            | (refine wpAnyH_take (i := 12) (oi := { dst := some 40, op := Op.move (Operand.tmp 0), type := 27, pos := "group.go:101", after := #[{ on := 9, ground := Ground.guard }], guard := some (9, false) }) (v := undef) rfl (by kernel_rfl) (by kernel_rfl) (by kernel_rfl) (fun _ _ _ h => h) (Or.inr ⟨by rfl, rfl⟩) (by assumption) ?_)
            | (refine wpAnyH_take (i := 12) (oi := { dst := some 40, op := Op.move (Operand.tmp 0), type := 27, pos := "group.go:101", after := #[{ on := 9, ground := Ground.guard }], guard := some (9, false) }) (v := ?_) rfl (by kernel_rfl) (by kernel_rfl) (by kernel_rfl) (fun _ _ _ h => h) (Or.inl ⟨by rfl, ?_⟩) (by assumption) ?_; rotate_left; · (intro wq hSw; (try dsimp only at hSw); go_simp; try (with_reducible rfl)))
          try simp only [Act.put, List.setIfInBounds_toArray, List.set_cons_zero, List.set_cons_succ]
          first
            | (refine wpAnyH_take (i := 13) (oi := { dst := some 41, op := Op.nilCheck (Operand.tmp 40), type := 0, pos := "group.go:101", after := #[{ on := 12, ground := Ground.data }, { on := 9, ground := Ground.guard }], guard := some (9, false) }) (v := undef) rfl (by kernel_rfl) (by kernel_rfl) (by kernel_rfl) (fun _ _ _ h => h) (Or.inr ⟨by rfl, rfl⟩) (by assumption) ?_)
            | (refine wpAnyH_take (i := 13) (oi := { dst := some 41, op := Op.nilCheck (Operand.tmp 40), type := 0, pos := "group.go:101", after := #[{ on := 12, ground := Ground.data }, { on := 9, ground := Ground.guard }], guard := some (9, false) }) (v := ?_) rfl (by kernel_rfl) (by kernel_rfl) (by kernel_rfl) (fun _ _ _ h => h) (Or.inl ⟨by rfl, ?_⟩) (by assumption) ?_; rotate_left; · (intro wq hSw; (try dsimp only at hSw); go_simp; try (with_reducible rfl)))
          try simp only [Act.put, List.setIfInBounds_toArray, List.set_cons_zero, List.set_cons_succ]
          first
            | (refine wpAnyH_take (i := 14) (oi := { dst := some 42, op := Op.fieldAddr 49 (Operand.tmp 41) 0, type := 0, pos := "group.go:101", after := #[{ on := 13, ground := Ground.data }, { on := 9, ground := Ground.guard }], guard := some (9, false) }) (v := undef) rfl (by kernel_rfl) (by kernel_rfl) (by kernel_rfl) (fun _ _ _ h => h) (Or.inr ⟨by rfl, rfl⟩) (by assumption) ?_)
            | (refine wpAnyH_take (i := 14) (oi := { dst := some 42, op := Op.fieldAddr 49 (Operand.tmp 41) 0, type := 0, pos := "group.go:101", after := #[{ on := 13, ground := Ground.data }, { on := 9, ground := Ground.guard }], guard := some (9, false) }) (v := ?_) rfl (by kernel_rfl) (by kernel_rfl) (by kernel_rfl) (fun _ _ _ h => h) (Or.inl ⟨by rfl, ?_⟩) (by assumption) ?_; rotate_left; · (intro wq hSw; (try dsimp only at hSw); go_simp; try (with_reducible rfl)))
          try simp only [Act.put, List.setIfInBounds_toArray, List.set_cons_zero, List.set_cons_succ]
          first
            | (refine wpAnyH_take (i := 15) (oi := { dst := some 43, op := Op.load 47 (Operand.tmp 42), type := 47, pos := "group.go:101", after := #[{ on := 14, ground := Ground.data }, { on := 9, ground := Ground.guard }], guard := some (9, false) }) (v := undef) rfl (by kernel_rfl) (by kernel_rfl) (by kernel_rfl) (fun _ _ _ h => h) (Or.inr ⟨by rfl, rfl⟩) (by assumption) ?_)
            | (refine wpAnyH_take (i := 15) (oi := { dst := some 43, op := Op.load 47 (Operand.tmp 42), type := 47, pos := "group.go:101", after := #[{ on := 14, ground := Ground.data }, { on := 9, ground := Ground.guard }], guard := some (9, false) }) (v := ?_) rfl (by kernel_rfl) (by kernel_rfl) (by kernel_rfl) (fun _ _ _ h => h) (Or.inl ⟨by rfl, ?_⟩) (by assumption) ?_; rotate_left; · (intro wq hSw; (try dsimp only at hSw); go_simp; try (with_reducible rfl)))
          try simp only [Act.put, List.setIfInBounds_toArray, List.set_cons_zero, List.set_cons_succ]
          first
            | (refine wpAnyH_take (i := 16) (oi := { dst := some 44, op := Op.move (Operand.tmp 4), type := 3, pos := "group.go:101", after := #[{ on := 9, ground := Ground.guard }], guard := some (9, false) }) (v := undef) rfl (by kernel_rfl) (by kernel_rfl) (by kernel_rfl) (fun _ _ _ h => h) (Or.inr ⟨by rfl, rfl⟩) (by assumption) ?_)
            | (refine wpAnyH_take (i := 16) (oi := { dst := some 44, op := Op.move (Operand.tmp 4), type := 3, pos := "group.go:101", after := #[{ on := 9, ground := Ground.guard }], guard := some (9, false) }) (v := ?_) rfl (by kernel_rfl) (by kernel_rfl) (by kernel_rfl) (fun _ _ _ h => h) (Or.inl ⟨by rfl, ?_⟩) (by assumption) ?_; rotate_left; · (intro wq hSw; (try dsimp only at hSw); go_simp; try (with_reducible rfl)))
          try simp only [Act.put, List.setIfInBounds_toArray, List.set_cons_zero, List.set_cons_succ]
          first
            | (refine wpAnyH_take (i := 17) (oi := { dst := some 45, op := Op.lookup 47 (Operand.tmp 43) (Operand.tmp 44) false, type := 51, pos := "group.go:101", after := #[{ on := 15, ground := Ground.data }, { on := 16, ground := Ground.data }, { on := 9, ground := Ground.guard }], guard := some (9, false) }) (v := undef) rfl (by kernel_rfl) (by kernel_rfl) (by kernel_rfl) (fun _ _ _ h => h) (Or.inr ⟨by rfl, rfl⟩) (by assumption) ?_)
            | (refine wpAnyH_take (i := 17) (oi := { dst := some 45, op := Op.lookup 47 (Operand.tmp 43) (Operand.tmp 44) false, type := 51, pos := "group.go:101", after := #[{ on := 15, ground := Ground.data }, { on := 16, ground := Ground.data }, { on := 9, ground := Ground.guard }], guard := some (9, false) }) (v := ?_) rfl (by kernel_rfl) (by kernel_rfl) (by kernel_rfl) (fun _ _ _ h => h) (Or.inl ⟨by rfl, ?_⟩) (by assumption) ?_; rotate_left; · (intro wq hSw; (try dsimp only at hSw); go_simp; try (with_reducible rfl)))
          try simp only [Act.put, List.setIfInBounds_toArray, List.set_cons_zero, List.set_cons_succ]
          first
            | (refine wpAnyH_take (i := 18) (oi := { dst := some 46, op := Op.field 51 (Operand.tmp 45) 0, type := 3, pos := "group.go:101", after := #[{ on := 17, ground := Ground.data }, { on := 9, ground := Ground.guard }], guard := some (9, false) }) (v := undef) rfl (by kernel_rfl) (by kernel_rfl) (by kernel_rfl) (fun _ _ _ h => h) (Or.inr ⟨by rfl, rfl⟩) (by assumption) ?_)
            | (refine wpAnyH_take (i := 18) (oi := { dst := some 46, op := Op.field 51 (Operand.tmp 45) 0, type := 3, pos := "group.go:101", after := #[{ on := 17, ground := Ground.data }, { on := 9, ground := Ground.guard }], guard := some (9, false) }) (v := ?_) rfl (by kernel_rfl) (by kernel_rfl) (by kernel_rfl) (fun _ _ _ h => h) (Or.inl ⟨by rfl, ?_⟩) (by assumption) ?_; rotate_left; · (intro wq hSw; (try dsimp only at hSw); go_simp; try (with_reducible rfl)))
          try simp only [Act.put, List.setIfInBounds_toArray, List.set_cons_zero, List.set_cons_succ]
          first
            | (refine wpAnyH_take (i := 19) (oi := { dst := some 47, op := Op.binOp BinOp.leq 3 (Operand.tmp 39) (Operand.tmp 46) 3, type := 4, pos := "group.go:101", after := #[{ on := 11, ground := Ground.data }, { on := 18, ground := Ground.data }, { on := 9, ground := Ground.guard }], guard := some (9, false) }) (v := undef) rfl (by kernel_rfl) (by kernel_rfl) (by kernel_rfl) (fun _ _ _ h => h) (Or.inr ⟨by rfl, rfl⟩) (by assumption) ?_)
            | (refine wpAnyH_take (i := 19) (oi := { dst := some 47, op := Op.binOp BinOp.leq 3 (Operand.tmp 39) (Operand.tmp 46) 3, type := 4, pos := "group.go:101", after := #[{ on := 11, ground := Ground.data }, { on := 18, ground := Ground.data }, { on := 9, ground := Ground.guard }], guard := some (9, false) }) (v := ?_) rfl (by kernel_rfl) (by kernel_rfl) (by kernel_rfl) (fun _ _ _ h => h) (Or.inl ⟨by rfl, ?_⟩) (by assumption) ?_; rotate_left; · (intro wq hSw; (try dsimp only at hSw); go_simp; try (with_reducible rfl)))
          try simp only [Act.put, List.setIfInBounds_toArray, List.set_cons_zero, List.set_cons_succ]
          first
            | (refine wpAnyH_take (i := 20) (oi := { dst := some 48, op := Op.pick (Operand.tmp 37) (Operand.const (Value.bool true)) (Operand.tmp 47), type := 4, pos := "group.go:101", after := #[{ on := 9, ground := Ground.data }, { on := 19, ground := Ground.data }, { on := 6, ground := Ground.guard }], guard := some (6, true) }) (v := undef) rfl (by kernel_rfl) (by kernel_rfl) (by kernel_rfl) (fun _ _ _ h => h) (Or.inr ⟨by rfl, rfl⟩) (by assumption) ?_)
            | (refine wpAnyH_take (i := 20) (oi := { dst := some 48, op := Op.pick (Operand.tmp 37) (Operand.const (Value.bool true)) (Operand.tmp 47), type := 4, pos := "group.go:101", after := #[{ on := 9, ground := Ground.data }, { on := 19, ground := Ground.data }, { on := 6, ground := Ground.guard }], guard := some (6, true) }) (v := ?_) rfl (by kernel_rfl) (by kernel_rfl) (by kernel_rfl) (fun _ _ _ h => h) (Or.inl ⟨by rfl, ?_⟩) (by assumption) ?_; rotate_left; · (intro wq hSw; (try dsimp only at hSw); go_simp; try (with_reducible rfl)))
          try simp only [Act.put, List.setIfInBounds_toArray, List.set_cons_zero, List.set_cons_succ]
          first
            | (refine wpAnyH_take (i := 21) (oi := { dst := some 49, op := Op.pick (Operand.tmp 34) (Operand.tmp 48) (Operand.const (Value.bool false)), type := 4, pos := "group.go:101", after := #[{ on := 6, ground := Ground.data }, { on := 20, ground := Ground.data }], guard := none }) (v := undef) rfl (by kernel_rfl) (by kernel_rfl) (by kernel_rfl) (fun _ _ _ h => h) (Or.inr ⟨by rfl, rfl⟩) (by assumption) ?_)
            | (refine wpAnyH_take (i := 21) (oi := { dst := some 49, op := Op.pick (Operand.tmp 34) (Operand.tmp 48) (Operand.const (Value.bool false)), type := 4, pos := "group.go:101", after := #[{ on := 6, ground := Ground.data }, { on := 20, ground := Ground.data }], guard := none }) (v := ?_) rfl (by kernel_rfl) (by kernel_rfl) (by kernel_rfl) (fun _ _ _ h => h) (Or.inl ⟨by rfl, ?_⟩) (by assumption) ?_; rotate_left; · (intro wq hSw; (try dsimp only at hSw); go_simp; try (with_reducible rfl)))
          try simp only [Act.put, List.setIfInBounds_toArray, List.set_cons_zero, List.set_cons_succ]
          refine wpAnyH_done (by kernel_rfl) ?_ _
          clear c0 c1 cm clk
          clear hHeld
          go_wp2
          go_roundg k1
          case measure => omega
          case rel => exact ⟨bs, ok, i + 1, rfl, rfl, by rw [ws.out], ⟨by have := HK.out; omega, ⟨HK.out.2.1.1, HK.out.2.1.2⟩, r2.out⟩, ⟨below_step hbx2.out (by repeat (first | assumption | exact Below.refl _ _ | refine pw_below_drewN ?_ _ | refine below_drew ?_))⟩⟩
        · have b0a : (z == 0) = false := beq_eq_false_iff_ne.mpr hz0
          have b0b : (z != 0) = true := by unfold bne; rw [b0a]; rfl
          cases ok with
          | false =>
            have r2 := r.trans (by rw [if_pos ⟨⟨hz4, hz0⟩, Or.inl rfl⟩])
            replace r2 := Aside0.mk r2
            replace r := Aside0.mk r
            clear hz4 hz0
            go_upto_region 7 with (go_at_call 8; refine (hO.out _ (by repeat (first | assumption | exact Below.refl _ _ | refine pw_below_drewN ?_ _ | refine below_drew ?_))).mono ?_; rintro e w2 ⟨rfl, hb2⟩)
            refine wp_region_held_drew (S := (fun w' => w'.cell? ⟨hb, 0, none⟩ = some (.int .i64 u) ∧ w'.cell? ⟨hb, 1, none⟩ = some (.int .i64 m) ∧ w'.cell? ⟨bb, 0, none⟩ = some (.map (some mb)) ∧ (Instr.lookup 47 (.map (some mb)) (.int .i64 bs) false).run Try.prog w' = .ok (.agg #[.int .i64 u2, .int .i64 m2]) w')) (by kernel_rfl) (hS.out w2.drew (below_drew hb2)) (fun hHeld => ?_)
            first
              | (refine wpAnyH_take (i := 0) (oi := { dst := some 28, op := Op.move (Operand.tmp 9), type := 3, pos := "group.go:101", after := #[], guard := none }) (v := undef) rfl (by kernel_rfl) (by kernel_rfl) (by kernel_rfl) (fun _ _ _ h => h) (Or.inr ⟨by rfl, rfl⟩) (by assumption) ?_)
              | (refine wpAnyH_take (i := 0) (oi := { dst := some 28, op := Op.move (Operand.tmp 9), type := 3, pos := "group.go:101", after := #[], guard := none }) (v := ?_) rfl (by kernel_rfl) (by kernel_rfl) (by kernel_rfl) (fun _ _ _ h => h) (Or.inl ⟨by rfl, ?_⟩) (by assumption) ?_; rotate_left; · (intro wq hSw; (try dsimp only at hSw); go_simp; try (with_reducible rfl)))
            try simp only [Act.put, List.setIfInBounds_toArray, List.set_cons_zero, List.set_cons_succ]
            first
              | (refine wpAnyH_take (i := 1) (oi := { dst := some 29, op := Op.binOp BinOp.neq 3 (Operand.tmp 28) (Operand.const (Value.int IntKind.i64 4)) 3, type := 4, pos := "group.go:101", after := #[{ on := 0, ground := Ground.data }], guard := none }) (v := undef) rfl (by kernel_rfl) (by kernel_rfl) (by kernel_rfl) (fun _ _ _ h => h) (Or.inr ⟨by rfl, rfl⟩) (by assumption) ?_)
              | (refine wpAnyH_take (i := 1) (oi := { dst := some 29, op := Op.binOp BinOp.neq 3 (Operand.tmp 28) (Operand.const (Value.int IntKind.i64 4)) 3, type := 4, pos := "group.go:101", after := #[{ on := 0, ground := Ground.data }], guard := none }) (v := ?_) rfl (by kernel_rfl) (by kernel_rfl) (by kernel_rfl) (fun _ _ _ h => h) (Or.inl ⟨by rfl, ?_⟩) (by assumption) ?_; rotate_left; · (intro wq hSw; (try dsimp only at hSw); go_simp; try (with_reducible rfl)))
            try simp only [Act.put, List.setIfInBounds_toArray, List.set_cons_zero, List.set_cons_succ]
            first
              | (refine wpAnyH_take (i := 2) (oi := { dst := some 30, op := Op.move (Operand.tmp 29), type := 4, pos := "group.go:101", after := #[{ on := 1, ground := Ground.data }], guard := none }) (v := undef) rfl (by kernel_rfl) (by kernel_rfl) (by kernel_rfl) (fun _ _ _ h => h) (Or.inr ⟨by rfl, rfl⟩) (by assumption) ?_)
              | (refine wpAnyH_take (i := 2) (oi := { dst := some 30, op := Op.move (Operand.tmp 29), type := 4, pos := "group.go:101", after := #[{ on := 1, ground := Ground.data }], guard := none }) (v := ?_) rfl (by kernel_rfl) (by kernel_rfl) (by kernel_rfl) (fun _ _ _ h => h) (Or.inl ⟨by rfl, ?_⟩) (by assumption) ?_; rotate_left; · (intro wq hSw; (try dsimp only at hSw); go_simp; try (with_reducible rfl)))
            try simp only [Act.put, List.setIfInBounds_toArray, List.set_cons_zero, List.set_cons_succ]
            first
              | (refine wpAnyH_take (i := 3) (oi := { dst := some 31, op := Op.move (Operand.tmp 9), type := 3, pos := "group.go:101", after := #[{ on := 2, ground := Ground.guard }], guard := some (2, true) }) (v := undef) rfl (by kernel_rfl) (by kernel_rfl) (by kernel_rfl) (fun _ _ _ h => h) (Or.inr ⟨by rfl, rfl⟩) (by assumption) ?_)
              | (refine wpAnyH_take (i := 3) (oi := { dst := some 31, op := Op.move (Operand.tmp 9), type := 3, pos := "group.go:101", after := #[{ on := 2, ground := Ground.guard }], guard := some (2, true) }) (v := ?_) rfl (by kernel_rfl) (by kernel_rfl) (by kernel_rfl) (fun _ _ _ h => h) (Or.inl ⟨by rfl, ?_⟩) (by assumption) ?_; rotate_left; · (intro wq hSw; (try dsimp only at hSw); go_simp; try (with_reducible rfl)))
            try simp only [Act.put, List.setIfInBounds_toArray, List.set_cons_zero, List.set_cons_succ]
            first
              | (refine wpAnyH_take (i := 4) (oi := { dst := some 32, op := Op.binOp BinOp.neq 3 (Operand.tmp 31) (Operand.const (Value.int IntKind.i64 0)) 3, type := 4, pos := "group.go:101", after := #[{ on := 3, ground := Ground.data }, { on := 2, ground := Ground.guard }], guard := some (2, true) }) (v := undef) rfl (by kernel_rfl) (by kernel_rfl) (by kernel_rfl) (fun _ _ _ h => h) (Or.inr ⟨by rfl, rfl⟩) (by assumption) ?_)
              | (refine wpAnyH_take (i := 4) (oi := { dst := some 32, op := Op.binOp BinOp.neq 3 (Operand.tmp 31) (Operand.const (Value.int IntKind.i64 0)) 3, type := 4, pos := "group.go:101", after := #[{ on := 3, ground := Ground.data }, { on := 2, ground := Ground.guard }], guard := some (2, true) }) (v := ?_) rfl (by kernel_rfl) (by kernel_rfl) (by kernel_rfl) (fun _ _ _ h => h) (Or.inl ⟨by rfl, ?_⟩) (by assumption) ?_; rotate_left; · (intro wq hSw; (try dsimp only at hSw); go_simp; try (with_reducible rfl)))
            try simp only [Act.put, List.setIfInBounds_toArray, List.set_cons_zero, List.set_cons_succ]
            first
              | (refine wpAnyH_take (i := 5) (oi := { dst := some 33, op := Op.pick (Operand.tmp 30) (Operand.tmp 32) (Operand.const (Value.bool false)), type := 4, pos := "group.go:101", after := #[{ on := 2, ground := Ground.data }, { on := 4, ground := Ground.data }], guard := none }) (v := undef) rfl (by kernel_rfl) (by kernel_rfl) (by kernel_rfl) (fun _ _ _ h => h) (Or.inr ⟨by rfl, rfl⟩) (by assumption) ?_)
              | (refine wpAnyH_take (i := 5) (oi := { dst := some 33, op := Op.pick (Operand.tmp 30) (Operand.tmp 32) (Operand.const (Value.bool false)), type := 4, pos := "group.go:101", after := #[{ on := 2, ground := Ground.data }, { on := 4, ground := Ground.data }], guard := none }) (v := ?_) rfl (by kernel_rfl) (by kernel_rfl) (by kernel_rfl) (fun _ _ _ h => h) (Or.inl ⟨by rfl, ?_⟩) (by assumption) ?_; rotate_left; · (intro wq hSw; (try dsimp only at hSw); go_simp; try (with_reducible rfl)))
            try simp only [Act.put, List.setIfInBounds_toArray, List.set_cons_zero, List.set_cons_succ]
            first
              | (refine wpAnyH_take (i := 6) (oi := { dst := some 34, op := Op.move (Operand.tmp 33), type := 4, pos := "group.go:101", after := #[{ on := 5, ground := Ground.data }, { on := 2, ground := Ground.chain }], guard := none }) (v := undef) rfl (by kernel_rfl) (by kernel_rfl) (by kernel_rfl) (fun _ _ _ h => h) (Or.inr ⟨by rfl, rfl⟩) (by assumption) ?_)
              | (refine wpAnyH_take (i := 6) (oi := { dst := some 34, op := Op.move (Operand.tmp 33), type := 4, pos := "group.go:101", after := #[{ on := 5, ground := Ground.data }, { on := 2, ground := Ground.chain }], guard := none }) (v := ?_) rfl (by kernel_rfl) (by kernel_rfl) (by kernel_rfl) (fun _ _ _ h => h) (Or.inl ⟨by rfl, ?_⟩) (by assumption) ?_; rotate_left; · (intro wq hSw; (try dsimp only at hSw); go_simp; try (with_reducible rfl)))
            try simp only [Act.put, List.setIfInBounds_toArray, List.set_cons_zero, List.set_cons_succ]
            first
              | (refine wpAnyH_take (i := 7) (oi := { dst := some 35, op := Op.move (Operand.tmp 5), type := 4, pos := "group.go:101", after := #[{ on := 6, ground := Ground.guard }], guard := some (6, true) }) (v := undef) rfl (by kernel_rfl) (by kernel_rfl) (by kernel_rfl) (fun _ _ _ h => h) (Or.inr ⟨by rfl, rfl⟩) (by assumption) ?_)
              | (refine wpAnyH_take (i := 7) (oi := { dst := some 35, op := Op.move (Operand.tmp 5), type := 4, pos := "group.go:101", after := #[{ on := 6, ground := Ground.guard }], guard := some (6, true) }) (v := ?_) rfl (by kernel_rfl) (by kernel_rfl) (by kernel_rfl) (fun _ _ _ h => h) (Or.inl ⟨by rfl, ?_⟩) (by assumption) ?_; rotate_left; · (intro wq hSw; (try dsimp only at hSw); go_simp; try (with_reducible rfl)))
            try simp only [Act.put, List.setIfInBounds_toArray, List.set_cons_zero, List.set_cons_succ]
            first
              | (refine wpAnyH_take (i := 8) (oi := { dst := some 36, op := Op.unOp UnOp.not 4 (Operand.tmp 35), type := 4, pos := "group.go:101", after := #[{ on := 7, ground := Ground.data }, { on := 6, ground := Ground.guard }], guard := some (6, true) }) (v := undef) rfl (by kernel_rfl) (by kernel_rfl) (by kernel_rfl) (fun _ _ _ h => h) (Or.inr ⟨by rfl, rfl⟩) (by assumption) ?_)
              | (refine wpAnyH_take (i := 8) (oi := { dst := some 36, op := Op.unOp UnOp.not 4 (Operand.tmp 35), type := 4, pos := "group.go:101", after := #[{ on := 7, ground := Ground.data }, { on := 6, ground := Ground.guard }], guard := some (6, true) }) (v := ?_) rfl (by kernel_rfl) (by kernel_rfl) (by kernel_rfl) (fun _ _ _ h => h) (Or.inl ⟨by rfl, ?_⟩) (by assumption) ?_; rotate_left; · (intro wq hSw; (try dsimp only at hSw); go_simp; try (with_reducible rfl)))
            try simp only [Act.put, List.setIfInBounds_toArray, List.set_cons_zero, List.set_cons_succ]
            first
              | (refine wpAnyH_take (i := 9) (oi := { dst := some 37, op := Op.move (Operand.tmp 36), type := 4, pos := "group.go:101", after := #[{ on := 8, ground := Ground.data }, { on := 6, ground := Ground.chain }, { on := 6, ground := Ground.guard }], guard := some (6, true) }) (v := undef) rfl (by kernel_rfl) (by kernel_rfl) (by kernel_rfl) (fun _ _ _ h => h) (Or.inr ⟨by rfl, rfl⟩) (by assumption) ?_)
              | (refine wpAnyH_take (i := 9) (oi := { dst := some 37, op := Op.move (Operand.tmp 36), type := 4, pos := "group.go:101", after := #[{ on := 8, ground := Ground.data }, { on := 6, ground := Ground.chain }, { on := 6, ground := Ground.guard }], guard := some (6, true) }) (v := ?_) rfl (by kernel_rfl) (by kernel_rfl) (by kernel_rfl) (fun _ _ _ h => h) (Or.inl ⟨by rfl, ?_⟩) (by assumption) ?_; rotate_left; · (intro wq hSw; (try dsimp only at hSw); go_simp; try (with_reducible rfl)))
            try simp only [Act.put, List.setIfInBounds_toArray, List.set_cons_zero, List.set_cons_succ]
            first
              | (refine wpAnyH_take (i := 10) (oi := { dst := some 38, op := Op.fieldAddr 51 (Operand.tmp 8) 0, type := 0, pos := "group.go:101", after := #[{ on := 9, ground := Ground.guard }], guard := some (9, false) }) (v := undef) rfl (by kernel_rfl) (by kernel_rfl) (by kernel_rfl) (fun _ _ _ h => h) (Or.inr ⟨by rfl, rfl⟩) (by assumption) ?_)
              | (refine wpAnyH_take (i := 10) (oi := { dst := some 38, op := Op.fieldAddr 51 (Operand.tmp 8) 0, type := 0, pos := "group.go:101", after := #[{ on := 9, ground := Ground.guard }], guard := some (9, false) }) (v := ?_) rfl (by kernel_rfl) (by kernel_rfl) (by kernel_rfl) (fun _ _ _ h => h) (Or.inl ⟨by rfl, ?_⟩) (by assumption) ?_; rotate_left; · (intro wq hSw; (try dsimp only at hSw); go_simp; try (with_reducible rfl)))
            try simp only [Act.put, List.setIfInBounds_toArray, List.set_cons_zero, List.set_cons_succ]
            first
              | (refine wpAnyH_take (i := 11) (oi := { dst := some 39, op := Op.load 3 (Operand.tmp 38), type := 3, pos := "group.go:101", after := #[{ on := 10, ground := Ground.data }, { on := 9, ground := Ground.guard }], guard := some (9, false) }) (v := undef) rfl (by kernel_rfl) (by kernel_rfl) (by kernel_rfl) (fun _ _ _ h => h) (Or.inr ⟨by rfl, rfl⟩) (by assumption) ?_)
              | (refine wpAnyH_take (i := 11) (oi := { dst := some 39, op := Op.load 3 (Operand.tmp 38), type := 3, pos := "group.go:101", after := #[{ on := 10, ground := Ground.data }, { on := 9, ground := Ground.guard }], guard := some (9, false) }) (v := ?_) rfl (by kernel_rfl) (by kernel_rfl) (by kernel_rfl) (fun _ _ _ h => h) (Or.inl ⟨by rfl, ?_⟩) (by assumption) ?_; rotate_left; · (intro wq hSw; (try dsimp only at hSw); go_simp; try (with_reducible rfl)))
            try simp only [Act.put, List.setIfInBounds_toArray, List.set_cons_zero, List.set_cons_succ]
            first
              | (refine wpAnyH_take (i := 12) (oi := { dst := some 40, op := Op.move (Operand.tmp 0), type := 27, pos := "group.go:101", after := #[{ on := 9, ground := Ground.guard }], guard := some (9, false) }) (v := undef) rfl (by kernel_rfl) (by kernel_rfl) (by kernel_rfl) (fun _ _ _ h => h) (Or.inr ⟨by rfl, rfl⟩) (by assumption) ?_)
              | (refine wpAnyH_take (i := 12) (oi := { dst := some 40, op := Op.move (Operand.tmp 0), type := 27, pos := "group.go:101", after := #[{ on := 9, ground := Ground.guard }], guard := some (9, false) }) (v := ?_) rfl (by kernel_rfl) (by kernel_rfl) (by kernel_rfl) (fun _ _ _ h => h) (Or.inl ⟨by rfl, ?_⟩) (by assumption) ?_; rotate_left; · (intro wq hSw; (try dsimp only at hSw); go_simp; try (with_reducible rfl)))
            try simp only [Act.put, List.setIfInBounds_toArray, List.set_cons_zero, List.set_cons_succ]
            first
              | (refine wpAnyH_take (i := 13) (oi := { dst := some 41, op := Op.nilCheck (Operand.tmp 40), type := 0, pos := "group.go:101", after := #[{ on := 12, ground := Ground.data }, { on := 9, ground := Ground.guard }], guard := some (9, false) }) (v := undef) rfl (by kernel_rfl) (by kernel_rfl) (by kernel_rfl) (fun _ _ _ h => h) (Or.inr ⟨by rfl, rfl⟩) (by assumption) ?_)
              | (refine wpAnyH_take (i := 13) (oi := { dst := some 41, op := Op.nilCheck (Operand.tmp 40), type := 0, pos := "group.go:101", after := #[{ on := 12, ground := Ground.data }, { on := 9, ground := Ground.guard }], guard := some (9, false) }) (v := ?_) rfl (by kernel_rfl) (by kernel_rfl) (by kernel_rfl) (fun _ _ _ h => h) (Or.inl ⟨by rfl, ?_⟩) (by assumption) ?_; rotate_left; · (intro wq hSw; (try dsimp only at hSw); go_simp; try (with_reducible rfl)))
            try simp only [Act.put, List.setIfInBounds_toArray, List.set_cons_zero, List.set_cons_succ]
            first
              | (refine wpAnyH_take (i := 14) (oi := { dst := some 42, op := Op.fieldAddr 49 (Operand.tmp 41) 0, type := 0, pos := "group.go:101", after := #[{ on := 13, ground := Ground.data }, { on := 9, ground := Ground.guard }], guard := some (9, false) }) (v := undef) rfl (by kernel_rfl) (by kernel_rfl) (by kernel_rfl) (fun _ _ _ h => h) (Or.inr ⟨by rfl, rfl⟩) (by assumption) ?_)
              | (refine wpAnyH_take (i := 14) (oi := { dst := some 42, op := Op.fieldAddr 49 (Operand.tmp 41) 0, type := 0, pos := "group.go:101", after := #[{ on := 13, ground := Ground.data }, { on := 9, ground := Ground.guard }], guard := some (9, false) }) (v := ?_) rfl (by kernel_rfl) (by kernel_rfl) (by kernel_rfl) (fun _ _ _ h => h) (Or.inl ⟨by rfl, ?_⟩) (by assumption) ?_; rotate_left; · (intro wq hSw; (try dsimp only at hSw); go_simp; try (with_reducible rfl)))
            try simp only [Act.put, List.setIfInBounds_toArray, List.set_cons_zero, List.set_cons_succ]
            first
              | (refine wpAnyH_take (i := 15) (oi := { dst := some 43, op := Op.load 47 (Operand.tmp 42), type := 47, pos := "group.go:101", after := #[{ on := 14, ground := Ground.data }, { on := 9, ground := Ground.guard }], guard := some (9, false) }) (v := undef) rfl (by kernel_rfl) (by kernel_rfl) (by kernel_rfl) (fun _ _ _ h => h) (Or.inr ⟨by rfl, rfl⟩) (by assumption) ?_)
              | (refine wpAnyH_take (i := 15) (oi := { dst := some 43, op := Op.load 47 (Operand.tmp 42), type := 47, pos := "group.go:101", after := #[{ on := 14, ground := Ground.data }, { on := 9, ground := Ground.guard }], guard := some (9, false) }) (v := ?_) rfl (by kernel_rfl) (by kernel_rfl) (by kernel_rfl) (fun _ _ _ h => h) (Or.inl ⟨by rfl, ?_⟩) (by assumption) ?_; rotate_left; · (intro wq hSw; (try dsimp only at hSw); go_simp; try (with_reducible rfl)))
            try simp only [Act.put, List.setIfInBounds_toArray, List.set_cons_zero, List.set_cons_succ]
            first
              | (refine wpAnyH_take (i := 16) (oi := { dst := some 44, op := Op.move (Operand.tmp 4), type := 3, pos := "group.go:101", after := #[{ on := 9, ground := Ground.guard }], guard := some (9, false) }) (v := undef) rfl (by kernel_rfl) (by kernel_rfl) (by kernel_rfl) (fun _ _ _ h => h) (Or.inr ⟨by rfl, rfl⟩) (by assumption) ?_)
              | (refine wpAnyH_take (i := 16) (oi := { dst := some 44, op := Op.move (Operand.tmp 4), type := 3, pos := "group.go:101", after := #[{ on := 9, ground := Ground.guard }], guard := some (9, false) }) (v := ?_) rfl (by kernel_rfl) (by kernel_rfl) (by kernel_rfl) (fun _ _ _ h => h) (Or.inl ⟨by rfl, ?_⟩) (by assumption) ?_; rotate_left; · (intro wq hSw; (try dsimp only at hSw); go_simp; try (with_reducible rfl)))
            try simp only [Act.put, List.setIfInBounds_toArray, List.set_cons_zero, List.set_cons_succ]
            first
              | (refine wpAnyH_take (i := 17) (oi := { dst := some 45, op := Op.lookup 47 (Operand.tmp 43) (Operand.tmp 44) false, type := 51, pos := "group.go:101", after := #[{ on := 15, ground := Ground.data }, { on := 16, ground := Ground.data }, { on := 9, ground := Ground.guard }], guard := some (9, false) }) (v := undef) rfl (by kernel_rfl) (by kernel_rfl) (by kernel_rfl) (fun _ _ _ h => h) (Or.inr ⟨by rfl, rfl⟩) (by assumption) ?_)
              | (refine wpAnyH_take (i := 17) (oi := { dst := some 45, op := Op.lookup 47 (Operand.tmp 43) (Operand.tmp 44) false, type := 51, pos := "group.go:101", after := #[{ on := 15, ground := Ground.data }, { on := 16, ground := Ground.data }, { on := 9, ground := Ground.guard }], guard := some (9, false) }) (v := ?_) rfl (by kernel_rfl) (by kernel_rfl) (by kernel_rfl) (fun _ _ _ h => h) (Or.inl ⟨by rfl, ?_⟩) (by assumption) ?_; rotate_left; · (intro wq hSw; (try dsimp only at hSw); go_simp; try (with_reducible rfl)))
            try simp only [Act.put, List.setIfInBounds_toArray, List.set_cons_zero, List.set_cons_succ]
            first
              | (refine wpAnyH_take (i := 18) (oi := { dst := some 46, op := Op.field 51 (Operand.tmp 45) 0, type := 3, pos := "group.go:101", after := #[{ on := 17, ground := Ground.data }, { on := 9, ground := Ground.guard }], guard := some (9, false) }) (v := undef) rfl (by kernel_rfl) (by kernel_rfl) (by kernel_rfl) (fun _ _ _ h => h) (Or.inr ⟨by rfl, rfl⟩) (by assumption) ?_)
              | (refine wpAnyH_take (i := 18) (oi := { dst := some 46, op := Op.field 51 (Operand.tmp 45) 0, type := 3, pos := "group.go:101", after := #[{ on := 17, ground := Ground.data }, { on := 9, ground := Ground.guard }], guard := some (9, false) }) (v := ?_) rfl (by kernel_rfl) (by kernel_rfl) (by kernel_rfl) (fun _ _ _ h => h) (Or.inl ⟨by rfl, ?_⟩) (by assumption) ?_; rotate_left; · (intro wq hSw; (try dsimp only at hSw); go_simp; try (with_reducible rfl)))
            try simp only [Act.put, List.setIfInBounds_toArray, List.set_cons_zero, List.set_cons_succ]
            first
              | (refine wpAnyH_take (i := 19) (oi := { dst := some 47, op := Op.binOp BinOp.leq 3 (Operand.tmp 39) (Operand.tmp 46) 3, type := 4, pos := "group.go:101", after := #[{ on := 11, ground := Ground.data }, { on := 18, ground := Ground.data }, { on := 9, ground := Ground.guard }], guard := some (9, false) }) (v := undef) rfl (by kernel_rfl) (by kernel_rfl) (by kernel_rfl) (fun _ _ _ h => h) (Or.inr ⟨by rfl, rfl⟩) (by assumption) ?_)
              | (refine wpAnyH_take (i := 19) (oi := { dst := some 47, op := Op.binOp BinOp.leq 3 (Operand.tmp 39) (Operand.tmp 46) 3, type := 4, pos := "group.go:101", after := #[{ on := 11, ground := Ground.data }, { on := 18, ground := Ground.data }, { on := 9, ground := Ground.guard }], guard := some (9, false) }) (v := ?_) rfl (by kernel_rfl) (by kernel_rfl) (by kernel_rfl) (fun _ _ _ h => h) (Or.inl ⟨by rfl, ?_⟩) (by assumption) ?_; rotate_left; · (intro wq hSw; (try dsimp only at hSw); go_simp; try (with_reducible rfl)))
            try simp only [Act.put, List.setIfInBounds_toArray, List.set_cons_zero, List.set_cons_succ]
            first
              | (refine wpAnyH_take (i := 20) (oi := { dst := some 48, op := Op.pick (Operand.tmp 37) (Operand.const (Value.bool true)) (Operand.tmp 47), type := 4, pos := "group.go:101", after := #[{ on := 9, ground := Ground.data }, { on := 19, ground := Ground.data }, { on := 6, ground := Ground.guard }], guard := some (6, true) }) (v := undef) rfl (by kernel_rfl) (by kernel_rfl) (by kernel_rfl) (fun _ _ _ h => h) (Or.inr ⟨by rfl, rfl⟩) (by assumption) ?_)
              | (refine wpAnyH_take (i := 20) (oi := { dst := some 48, op := Op.pick (Operand.tmp 37) (Operand.const (Value.bool true)) (Operand.tmp 47), type := 4, pos := "group.go:101", after := #[{ on := 9, ground := Ground.data }, { on := 19, ground := Ground.data }, { on := 6, ground := Ground.guard }], guard := some (6, true) }) (v := ?_) rfl (by kernel_rfl) (by kernel_rfl) (by kernel_rfl) (fun _ _ _ h => h) (Or.inl ⟨by rfl, ?_⟩) (by assumption) ?_; rotate_left; · (intro wq hSw; (try dsimp only at hSw); go_simp; try (with_reducible rfl)))
            try simp only [Act.put, List.setIfInBounds_toArray, List.set_cons_zero, List.set_cons_succ]
            first
              | (refine wpAnyH_take (i := 21) (oi := { dst := some 49, op := Op.pick (Operand.tmp 34) (Operand.tmp 48) (Operand.const (Value.bool false)), type := 4, pos := "group.go:101", after := #[{ on := 6, ground := Ground.data }, { on := 20, ground := Ground.data }], guard := none }) (v := undef) rfl (by kernel_rfl) (by kernel_rfl) (by kernel_rfl) (fun _ _ _ h => h) (Or.inr ⟨by rfl, rfl⟩) (by assumption) ?_)
              | (refine wpAnyH_take (i := 21) (oi := { dst := some 49, op := Op.pick (Operand.tmp 34) (Operand.tmp 48) (Operand.const (Value.bool false)), type := 4, pos := "group.go:101", after := #[{ on := 6, ground := Ground.data }, { on := 20, ground := Ground.data }], guard := none }) (v := ?_) rfl (by kernel_rfl) (by kernel_rfl) (by kernel_rfl) (fun _ _ _ h => h) (Or.inl ⟨by rfl, ?_⟩) (by assumption) ?_; rotate_left; · (intro wq hSw; (try dsimp only at hSw); go_simp; try (with_reducible rfl)))
            try simp only [Act.put, List.setIfInBounds_toArray, List.set_cons_zero, List.set_cons_succ]
            refine wpAnyH_done (by kernel_rfl) ?_ _
            clear c0 c1 cm clk
            clear hHeld
            go_wp2
            go_roundg k1
            case measure => omega
            case rel => exact ⟨k, true, i + 1, rfl, rfl, by rw [ws.out], ⟨by have := HK.out; omega, ⟨hk4.out.1, hk4.out.2.1⟩, r2.out⟩, ⟨below_step hbx2.out (by repeat (first | assumption | exact Below.refl _ _ | refine pw_below_drewN ?_ _ | refine below_drew ?_))⟩⟩
          | true =>
            by_cases hlt : u ≤ u2
            · have b3 : decide (u ≤ u2) = true := decide_eq_true hlt
              have r2 := r.trans (by rw [if_pos ⟨⟨hz4, hz0⟩, Or.inr hlt⟩])
              replace r2 := Aside0.mk r2
              replace r := Aside0.mk r
              clear hz4 hz0 hlt
              go_upto_region 7 with (go_at_call 8; refine (hO.out _ (by repeat (first | assumption | exact Below.refl _ _ | refine pw_below_drewN ?_ _ | refine below_drew ?_))).mono ?_; rintro e w2 ⟨rfl, hb2⟩)
              refine wp_region_held_drew (S := (fun w' => w'.cell? ⟨hb, 0, none⟩ = some (.int .i64 u) ∧ w'.cell? ⟨hb, 1, none⟩ = some (.int .i64 m) ∧ w'.cell? ⟨bb, 0, none⟩ = some (.map (some mb)) ∧ (Instr.lookup 47 (.map (some mb)) (.int .i64 bs) false).run Try.prog w' = .ok (.agg #[.int .i64 u2, .int .i64 m2]) w')) (by kernel_rfl) (hS.out w2.drew (below_drew hb2)) (fun hHeld => ?_)
              first
                | (refine wpAnyH_take (i := 0) (oi := { dst := some 28, op := Op.move (Operand.tmp 9), type := 3, pos := "group.go:101", after := #[], guard := none }) (v := undef) rfl (by kernel_rfl) (by kernel_rfl) (by kernel_rfl) (fun _ _ _ h => h) (Or.inr ⟨by rfl, rfl⟩) (by assumption) ?_)
                | (refine wpAnyH_take (i := 0) (oi := { dst := some 28, op := Op.move (Operand.tmp 9), type := 3, pos := "group.go:101", after := #[], guard := none }) (v := ?_) rfl (by kernel_rfl) (by kernel_rfl) (by kernel_rfl) (fun _ _ _ h => h) (Or.inl ⟨by rfl, ?_⟩) (by assumption) ?_; rotate_left; · (intro wq hSw; (try dsimp only at hSw); go_simp; try (with_reducible rfl)))
              try simp only [Act.put, List.setIfInBounds_toArray, List.set_cons_zero, List.set_cons_succ]
              first
                | (refine wpAnyH_take (i := 1) (oi := { dst := some 29, op := Op.binOp BinOp.neq 3 (Operand.tmp 28) (Operand.const (Value.int IntKind.i64 4)) 3, type := 4, pos := "group.go:101", after := #[{ on := 0, ground := Ground.data }], guard := none }) (v := undef) rfl (by kernel_rfl) (by kernel_rfl) (by kernel_rfl) (fun _ _ _ h => h) (Or.inr ⟨by rfl, rfl⟩) (by assumption) ?_)
                | (refine wpAnyH_take (i := 1) (oi := { dst := some 29, op := Op.binOp BinOp.neq 3 (Operand.tmp 28) (Operand.const (Value.int IntKind.i64 4)) 3, type := 4, pos := "group.go:101", after := #[{ on := 0, ground := Ground.data }], guard := none }) (v := ?_) rfl (by kernel_rfl) (by kernel_rfl) (by kernel_rfl) (fun _ _ _ h => h) (Or.inl ⟨by rfl, ?_⟩) (by assumption) ?_; rotate_left; · (intro wq hSw; (try dsimp only at hSw); go_simp; try (with_reducible rfl)))
              try simp only [Act.put, List.setIfInBounds_toArray, List.set_cons_zero, List.set_cons_succ]
              first
                | (refine wpAnyH_take (i := 2) (oi := { dst := some 30, op := Op.move (Operand.tmp 29), type := 4, pos := "group.go:101", after := #[{ on := 1, ground := Ground.data }], guard := none }) (v := undef) rfl (by kernel_rfl) (by kernel_rfl) (by kernel_rfl) (fun _ _ _ h => h) (Or.inr ⟨by rfl, rfl⟩) (by assumption) ?_)
                | (refine wpAnyH_take (i := 2) (oi := { dst := some 30, op := Op.move (Operand.tmp 29), type := 4, pos := "group.go:101", after := #[{ on := 1, ground := Ground.data }], guard := none }) (v := ?_) rfl (by kernel_rfl) (by kernel_rfl) (by kernel_rfl) (fun _ _ _ h => h) (Or.inl ⟨by rfl, ?_⟩) (by assumption) ?_; rotate_left; · (intro wq hSw; (try dsimp only at hSw); go_simp; try (with_reducible rfl)))
              try simp only [Act.put, List.setIfInBounds_toArray, List.set_cons_zero, List.set_cons_succ]
              first
                | (refine wpAnyH_take (i := 3) (oi := { dst := some 31, op := Op.move (Operand.tmp 9), type := 3, pos := "group.go:101", after := #[{ on := 2, ground := Ground.guard }], guard := some (2, true) }) (v := undef) rfl (by kernel_rfl) (by kernel_rfl) (by kernel_rfl) (fun _ _ _ h => h) (Or.inr ⟨by rfl, rfl⟩) (by assumption) ?_)
                | (refine wpAnyH_take (i := 3) (oi := { dst := some 31, op := Op.move (Operand.tmp 9), type := 3, pos := "group.go:101", after := #[{ on := 2, ground := Ground.guard }], guard := some (2, true) }) (v := ?_) rfl (by kernel_rfl) (by kernel_rfl) (by kernel_rfl) (fun _ _ _ h => h) (Or.inl ⟨by rfl, ?_⟩) (by assumption) ?_; rotate_left; · (intro wq hSw; (try dsimp only at hSw); go_simp; try (with_reducible rfl)))
              try simp only [Act.put, List.setIfInBounds_toArray, List.set_cons_zero, List.set_cons_succ]
              first
                | (refine wpAnyH_take (i := 4) (oi := { dst := some 32, op := Op.binOp BinOp.neq 3 (Operand.tmp 31) (Operand.const (Value.int IntKind.i64 0)) 3, type := 4, pos := "group.go:101", after := #[{ on := 3, ground := Ground.data }, { on := 2, ground := Ground.guard }], guard := some (2, true) }) (v := undef) rfl (by kernel_rfl) (by kernel_rfl) (by kernel_rfl) (fun _ _ _ h => h) (Or.inr ⟨by rfl, rfl⟩) (by assumption) ?_)
                | (refine wpAnyH_take (i := 4) (oi := { dst := some 32, op := Op.binOp BinOp.neq 3 (Operand.tmp 31) (Operand.const (Value.int IntKind.i64 0)) 3, type := 4, pos := "group.go:101", after := #[{ on := 3, ground := Ground.data }, { on := 2, ground := Ground.guard }], guard := some (2, true) }) (v := ?_) rfl (by kernel_rfl) (by kernel_rfl) (by kernel_rfl) (fun _ _ _ h => h) (Or.inl ⟨by rfl, ?_⟩) (by assumption) ?_; rotate_left; · (intro wq hSw; (try dsimp only at hSw); go_simp; try (with_reducible rfl)))
              try simp only [Act.put, List.setIfInBounds_toArray, List.set_cons_zero, List.set_cons_succ]
              first
                | (refine wpAnyH_take (i := 5) (oi := { dst := some 33, op := Op.pick (Operand.tmp 30) (Operand.tmp 32) (Operand.const (Value.bool false)), type := 4, pos := "group.go:101", after := #[{ on := 2, ground := Ground.data }, { on := 4, ground := Ground.data }], guard := none }) (v := undef) rfl (by kernel_rfl) (by kernel_rfl) (by kernel_rfl) (fun _ _ _ h => h) (Or.inr ⟨by rfl, rfl⟩) (by assumption) ?_)
                | (refine wpAnyH_take (i := 5) (oi := { dst := some 33, op := Op.pick (Operand.tmp 30) (Operand.tmp 32) (Operand.const (Value.bool false)), type := 4, pos := "group.go:101", after := #[{ on := 2, ground := Ground.data }, { on := 4, ground := Ground.data }], guard := none }) (v := ?_) rfl (by kernel_rfl) (by kernel_rfl) (by kernel_rfl) (fun _ _ _ h => h) (Or.inl ⟨by rfl, ?_⟩) (by assumption) ?_; rotate_left; · (intro wq hSw; (try dsimp only at hSw); go_simp; try (with_reducible rfl)))
              try simp only [Act.put, List.setIfInBounds_toArray, List.set_cons_zero, List.set_cons_succ]
              first
                | (refine wpAnyH_take (i := 6) (oi := { dst := some 34, op := Op.move (Operand.tmp 33), type := 4, pos := "group.go:101", after := #[{ on := 5, ground := Ground.data }, { on := 2, ground := Ground.chain }], guard := none }) (v := undef) rfl (by kernel_rfl) (by kernel_rfl) (by kernel_rfl) (fun _ _ _ h => h) (Or.inr ⟨by rfl, rfl⟩) (by assumption) ?_)
                | (refine wpAnyH_take (i := 6) (oi := { dst := some 34, op := Op.move (Operand.tmp 33), type := 4, pos := "group.go:101", after := #[{ on := 5, ground := Ground.data }, { on := 2, ground := Ground.chain }], guard := none }) (v := ?_) rfl (by kernel_rfl) (by kernel_rfl) (by kernel_rfl) (fun _ _ _ h => h) (Or.inl ⟨by rfl, ?_⟩) (by assumption) ?_; rotate_left; · (intro wq hSw; (try dsimp only at hSw); go_simp; try (with_reducible rfl)))
              try simp only [Act.put, List.setIfInBounds_toArray, List.set_cons_zero, List.set_cons_succ]
              first
                | (refine wpAnyH_take (i := 7) (oi := { dst := some 35, op := Op.move (Operand.tmp 5), type := 4, pos := "group.go:101", after := #[{ on := 6, ground := Ground.guard }], guard := some (6, true) }) (v := undef) rfl (by kernel_rfl) (by kernel_rfl) (by kernel_rfl) (fun _ _ _ h => h) (Or.inr ⟨by rfl, rfl⟩) (by assumption) ?_)
                | (refine wpAnyH_take (i := 7) (oi := { dst := some 35, op := Op.move (Operand.tmp 5), type := 4, pos := "group.go:101", after := #[{ on := 6, ground := Ground.guard }], guard := some (6, true) }) (v := ?_) rfl (by kernel_rfl) (by kernel_rfl) (by kernel_rfl) (fun _ _ _ h => h) (Or.inl ⟨by rfl, ?_⟩) (by assumption) ?_; rotate_left; · (intro wq hSw; (try dsimp only at hSw); go_simp; try (with_reducible rfl)))
              try simp only [Act.put, List.setIfInBounds_toArray, List.set_cons_zero, List.set_cons_succ]
              first
                | (refine wpAnyH_take (i := 8) (oi := { dst := some 36, op := Op.unOp UnOp.not 4 (Operand.tmp 35), type := 4, pos := "group.go:101", after := #[{ on := 7, ground := Ground.data }, { on := 6, ground := Ground.guard }], guard := some (6, true) }) (v := undef) rfl (by kernel_rfl) (by kernel_rfl) (by kernel_rfl) (fun _ _ _ h => h) (Or.inr ⟨by rfl, rfl⟩) (by assumption) ?_)
                | (refine wpAnyH_take (i := 8) (oi := { dst := some 36, op := Op.unOp UnOp.not 4 (Operand.tmp 35), type := 4, pos := "group.go:101", after := #[{ on := 7, ground := Ground.data }, { on := 6, ground := Ground.guard }], guard := some (6, true) }) (v := ?_) rfl (by kernel_rfl) (by kernel_rfl) (by kernel_rfl) (fun _ _ _ h => h) (Or.inl ⟨by rfl, ?_⟩) (by assumption) ?_; rotate_left; · (intro wq hSw; (try dsimp only at hSw); go_simp; try (with_reducible rfl)))
              try simp only [Act.put, List.setIfInBounds_toArray, List.set_cons_zero, List.set_cons_succ]
              first
                | (refine wpAnyH_take (i := 9) (oi := { dst := some 37, op := Op.move (Operand.tmp 36), type := 4, pos := "group.go:101", after := #[{ on := 8, ground := Ground.data }, { on := 6, ground := Ground.chain }, { on := 6, ground := Ground.guard }], guard := some (6, true) }) (v := undef) rfl (by kernel_rfl) (by kernel_rfl) (by kernel_rfl) (fun _ _ _ h => h) (Or.inr ⟨by rfl, rfl⟩) (by assumption) ?_)
                | (refine wpAnyH_take (i := 9) (oi := { dst := some 37, op := Op.move (Operand.tmp 36), type := 4, pos := "group.go:101", after := #[{ on := 8, ground := Ground.data }, { on := 6, ground := Ground.chain }, { on := 6, ground := Ground.guard }], guard := some (6, true) }) (v := ?_) rfl (by kernel_rfl) (by kernel_rfl) (by kernel_rfl) (fun _ _ _ h => h) (Or.inl ⟨by rfl, ?_⟩) (by assumption) ?_; rotate_left; · (intro wq hSw; (try dsimp only at hSw); go_simp; try (with_reducible rfl)))
              try simp only [Act.put, List.setIfInBounds_toArray, List.set_cons_zero, List.set_cons_succ]
              first
                | (refine wpAnyH_take (i := 10) (oi := { dst := some 38, op := Op.fieldAddr 51 (Operand.tmp 8) 0, type := 0, pos := "group.go:101", after := #[{ on := 9, ground := Ground.guard }], guard := some (9, false) }) (v := undef) rfl (by kernel_rfl) (by kernel_rfl) (by kernel_rfl) (fun _ _ _ h => h) (Or.inr ⟨by rfl, rfl⟩) (by assumption) ?_)
                | (refine wpAnyH_take (i := 10) (oi := { dst := some 38, op := Op.fieldAddr 51 (Operand.tmp 8) 0, type := 0, pos := "group.go:101", after := #[{ on := 9, ground := Ground.guard }], guard := some (9, false) }) (v := ?_) rfl (by kernel_rfl) (by kernel_rfl) (by kernel_rfl) (fun _ _ _ h => h) (Or.inl ⟨by rfl, ?_⟩) (by assumption) ?_; rotate_left; · (intro wq hSw; (try dsimp only at hSw); go_simp; try (with_reducible rfl)))
              try simp only [Act.put, List.setIfInBounds_toArray, List.set_cons_zero, List.set_cons_succ]
              first
                | (refine wpAnyH_take (i := 11) (oi := { dst := some 39, op := Op.load 3 (Operand.tmp 38), type := 3, pos := "group.go:101", after := #[{ on := 10, ground := Ground.data }, { on := 9, ground := Ground.guard }], guard := some (9, false) }) (v := undef) rfl (by kernel_rfl) (by kernel_rfl) (by kernel_rfl) (fun _ _ _ h => h) (Or.inr ⟨by rfl, rfl⟩) (by assumption) ?_)
                | (refine wpAnyH_take (i := 11) (oi := { dst := some 39, op := Op.load 3 (Operand.tmp 38), type := 3, pos := "group.go:101", after := #[{ on := 10, ground := Ground.data }, { on := 9, ground := Ground.guard }], guard := some (9, false) }) (v := ?_) rfl (by kernel_rfl) (by kernel_rfl) (by kernel_rfl) (fun _ _ _ h => h) (Or.inl ⟨by rfl, ?_⟩) (by assumption) ?_; rotate_left; · (intro wq hSw; (try dsimp only at hSw); go_simp; try (with_reducible rfl)))
              try simp only [Act.put, List.setIfInBounds_toArray, List.set_cons_zero, List.set_cons_succ]
              first
                | (refine wpAnyH_take (i := 12) (oi := { dst := some 40, op := Op.move (Operand.tmp 0), type := 27, pos := "group.go:101", after := #[{ on := 9, ground := Ground.guard }], guard := some (9, false) }) (v := undef) rfl (by kernel_rfl) (by kernel_rfl) (by kernel_rfl) (fun _ _ _ h => h) (Or.inr ⟨by rfl, rfl⟩) (by assumption) ?_)
                | (refine wpAnyH_take (i := 12) (oi := { dst := some 40, op := Op.move (Operand.tmp 0), type := 27, pos := "group.go:101", after := #[{ on := 9, ground := Ground.guard }], guard := some (9, false) }) (v := ?_) rfl (by kernel_rfl) (by kernel_rfl) (by kernel_rfl) (fun _ _ _ h => h) (Or.inl ⟨by rfl, ?_⟩) (by assumption) ?_; rotate_left; · (intro wq hSw; (try dsimp only at hSw); go_simp; try (with_reducible rfl)))
              try simp only [Act.put, List.setIfInBounds_toArray, List.set_cons_zero, List.set_cons_succ]
              first
                | (refine wpAnyH_take (i := 13) (oi := { dst := some 41, op := Op.nilCheck (Operand.tmp 40), type := 0, pos := "group.go:101", after := #[{ on := 12, ground := Ground.data }, { on := 9, ground := Ground.guard }], guard := some (9, false) }) (v := undef) rfl (by kernel_rfl) (by kernel_rfl) (by kernel_rfl) (fun _ _ _ h => h) (Or.inr ⟨by rfl, rfl⟩) (by assumption) ?_)
                | (refine wpAnyH_take (i := 13) (oi := { dst := some 41, op := Op.nilCheck (Operand.tmp 40), type := 0, pos := "group.go:101", after := #[{ on := 12, ground := Ground.data }, { on := 9, ground := Ground.guard }], guard := some (9, false) }) (v := ?_) rfl (by kernel_rfl) (by kernel_rfl) (by kernel_rfl) (fun _ _ _ h => h) (Or.inl ⟨by rfl, ?_⟩) (by assumption) ?_; rotate_left; · (intro wq hSw; (try dsimp only at hSw); go_simp; try (with_reducible rfl)))
              try simp only [Act.put, List.setIfInBounds_toArray, List.set_cons_zero, List.set_cons_succ]
              first
                | (refine wpAnyH_take (i := 14) (oi := { dst := some 42, op := Op.fieldAddr 49 (Operand.tmp 41) 0, type := 0, pos := "group.go:101", after := #[{ on := 13, ground := Ground.data }, { on := 9, ground := Ground.guard }], guard := some (9, false) }) (v := undef) rfl (by kernel_rfl) (by kernel_rfl) (by kernel_rfl) (fun _ _ _ h => h) (Or.inr ⟨by rfl, rfl⟩) (by assumption) ?_)
                | (refine wpAnyH_take (i := 14) (oi := { dst := some 42, op := Op.fieldAddr 49 (Operand.tmp 41) 0, type := 0, pos := "group.go:101", after := #[{ on := 13, ground := Ground.data }, { on := 9, ground := Ground.guard }], guard := some (9, false) }) (v := ?_) rfl (by kernel_rfl) (by kernel_rfl) (by kernel_rfl) (fun _ _ _ h => h) (Or.inl ⟨by rfl, ?_⟩) (by assumption) ?_; rotate_left; · (intro wq hSw; (try dsimp only at hSw); go_simp; try (with_reducible rfl)))
              try simp only [Act.put, List.setIfInBounds_toArray, List.set_cons_zero, List.set_cons_succ]
              first
                | (refine wpAnyH_take (i := 15) (oi := { dst := some 43, op := Op.load 47 (Operand.tmp 42), type := 47, pos := "group.go:101", after := #[{ on := 14, ground := Ground.data }, { on := 9, ground := Ground.guard }], guard := some (9, false) }) (v := undef) rfl (by kernel_rfl) (by kernel_rfl) (by kernel_rfl) (fun _ _ _ h => h) (Or.inr ⟨by rfl, rfl⟩) (by assumption) ?_)
                | (refine wpAnyH_take (i := 15) (oi := { dst := some 43, op := Op.load 47 (Operand.tmp 42), type := 47, pos := "group.go:101", after := #[{ on := 14, ground := Ground.data }, { on := 9, ground := Ground.guard }], guard := some (9, false) }) (v := ?_) rfl (by kernel_rfl) (by kernel_rfl) (by kernel_rfl) (fun _ _ _ h => h) (Or.inl ⟨by rfl, ?_⟩) (by assumption) ?_; rotate_left; · (intro wq hSw; (try dsimp only at hSw); go_simp; try (with_reducible rfl)))
              try simp only [Act.put, List.setIfInBounds_toArray, List.set_cons_zero, List.set_cons_succ]
              first
                | (refine wpAnyH_take (i := 16) (oi := { dst := some 44, op := Op.move (Operand.tmp 4), type := 3, pos := "group.go:101", after := #[{ on := 9, ground := Ground.guard }], guard := some (9, false) }) (v := undef) rfl (by kernel_rfl) (by kernel_rfl) (by kernel_rfl) (fun _ _ _ h => h) (Or.inr ⟨by rfl, rfl⟩) (by assumption) ?_)
                | (refine wpAnyH_take (i := 16) (oi := { dst := some 44, op := Op.move (Operand.tmp 4), type := 3, pos := "group.go:101", after := #[{ on := 9, ground := Ground.guard }], guard := some (9, false) }) (v := ?_) rfl (by kernel_rfl) (by kernel_rfl) (by kernel_rfl) (fun _ _ _ h => h) (Or.inl ⟨by rfl, ?_⟩) (by assumption) ?_; rotate_left; · (intro wq hSw; (try dsimp only at hSw); go_simp; try (with_reducible rfl)))
              try simp only [Act.put, List.setIfInBounds_toArray, List.set_cons_zero, List.set_cons_succ]
              first
                | (refine wpAnyH_take (i := 17) (oi := { dst := some 45, op := Op.lookup 47 (Operand.tmp 43) (Operand.tmp 44) false, type := 51, pos := "group.go:101", after := #[{ on := 15, ground := Ground.data }, { on := 16, ground := Ground.data }, { on := 9, ground := Ground.guard }], guard := some (9, false) }) (v := undef) rfl (by kernel_rfl) (by kernel_rfl) (by kernel_rfl) (fun _ _ _ h => h) (Or.inr ⟨by rfl, rfl⟩) (by assumption) ?_)
                | (refine wpAnyH_take (i := 17) (oi := { dst := some 45, op := Op.lookup 47 (Operand.tmp 43) (Operand.tmp 44) false, type := 51, pos := "group.go:101", after := #[{ on := 15, ground := Ground.data }, { on := 16, ground := Ground.data }, { on := 9, ground := Ground.guard }], guard := some (9, false) }) (v := ?_) rfl (by kernel_rfl) (by kernel_rfl) (by kernel_rfl) (fun _ _ _ h => h) (Or.inl ⟨by rfl, ?_⟩) (by assumption) ?_; rotate_left; · (intro wq hSw; (try dsimp only at hSw); go_simp; try (with_reducible rfl)))
              try simp only [Act.put, List.setIfInBounds_toArray, List.set_cons_zero, List.set_cons_succ]
              first
                | (refine wpAnyH_take (i := 18) (oi := { dst := some 46, op := Op.field 51 (Operand.tmp 45) 0, type := 3, pos := "group.go:101", after := #[{ on := 17, ground := Ground.data }, { on := 9, ground := Ground.guard }], guard := some (9, false) }) (v := undef) rfl (by kernel_rfl) (by kernel_rfl) (by kernel_rfl) (fun _ _ _ h => h) (Or.inr ⟨by rfl, rfl⟩) (by assumption) ?_)
                | (refine wpAnyH_take (i := 18) (oi := { dst := some 46, op := Op.field 51 (Operand.tmp 45) 0, type := 3, pos := "group.go:101", after := #[{ on := 17, ground := Ground.data }, { on := 9, ground := Ground.guard }], guard := some (9, false) }) (v := ?_) rfl (by kernel_rfl) (by kernel_rfl) (by kernel_rfl) (fun _ _ _ h => h) (Or.inl ⟨by rfl, ?_⟩) (by assumption) ?_; rotate_left; · (intro wq hSw; (try dsimp only at hSw); go_simp; try (with_reducible rfl)))
              try simp only [Act.put, List.setIfInBounds_toArray, List.set_cons_zero, List.set_cons_succ]
              first
                | (refine wpAnyH_take (i := 19) (oi := { dst := some 47, op := Op.binOp BinOp.leq 3 (Operand.tmp 39) (Operand.tmp 46) 3, type := 4, pos := "group.go:101", after := #[{ on := 11, ground := Ground.data }, { on := 18, ground := Ground.data }, { on := 9, ground := Ground.guard }], guard := some (9, false) }) (v := undef) rfl (by kernel_rfl) (by kernel_rfl) (by kernel_rfl) (fun _ _ _ h => h) (Or.inr ⟨by rfl, rfl⟩) (by assumption) ?_)
                | (refine wpAnyH_take (i := 19) (oi := { dst := some 47, op := Op.binOp BinOp.leq 3 (Operand.tmp 39) (Operand.tmp 46) 3, type := 4, pos := "group.go:101", after := #[{ on := 11, ground := Ground.data }, { on := 18, ground := Ground.data }, { on := 9, ground := Ground.guard }], guard := some (9, false) }) (v := ?_) rfl (by kernel_rfl) (by kernel_rfl) (by kernel_rfl) (fun _ _ _ h => h) (Or.inl ⟨by rfl, ?_⟩) (by assumption) ?_; rotate_left; · (intro wq hSw; (try dsimp only at hSw); go_simp; try (with_reducible rfl)))
              try simp only [Act.put, List.setIfInBounds_toArray, List.set_cons_zero, List.set_cons_succ]
              first
                | (refine wpAnyH_take (i := 20) (oi := { dst := some 48, op := Op.pick (Operand.tmp 37) (Operand.const (Value.bool true)) (Operand.tmp 47), type := 4, pos := "group.go:101", after := #[{ on := 9, ground := Ground.data }, { on := 19, ground := Ground.data }, { on := 6, ground := Ground.guard }], guard := some (6, true) }) (v := undef) rfl (by kernel_rfl) (by kernel_rfl) (by kernel_rfl) (fun _ _ _ h => h) (Or.inr ⟨by rfl, rfl⟩) (by assumption) ?_)
                | (refine wpAnyH_take (i := 20) (oi := { dst := some 48, op := Op.pick (Operand.tmp 37) (Operand.const (Value.bool true)) (Operand.tmp 47), type := 4, pos := "group.go:101", after := #[{ on := 9, ground := Ground.data }, { on := 19, ground := Ground.data }, { on := 6, ground := Ground.guard }], guard := some (6, true) }) (v := ?_) rfl (by kernel_rfl) (by kernel_rfl) (by kernel_rfl) (fun _ _ _ h => h) (Or.inl ⟨by rfl, ?_⟩) (by assumption) ?_; rotate_left; · (intro wq hSw; (try dsimp only at hSw); go_simp; try (with_reducible rfl)))
              try simp only [Act.put, List.setIfInBounds_toArray, List.set_cons_zero, List.set_cons_succ]
              first
                | (refine wpAnyH_take (i := 21) (oi := { dst := some 49, op := Op.pick (Operand.tmp 34) (Operand.tmp 48) (Operand.const (Value.bool false)), type := 4, pos := "group.go:101", after := #[{ on := 6, ground := Ground.data }, { on := 20, ground := Ground.data }], guard := none }) (v := undef) rfl (by kernel_rfl) (by kernel_rfl) (by kernel_rfl) (fun _ _ _ h => h) (Or.inr ⟨by rfl, rfl⟩) (by assumption) ?_)
                | (refine wpAnyH_take (i := 21) (oi := { dst := some 49, op := Op.pick (Operand.tmp 34) (Operand.tmp 48) (Operand.const (Value.bool false)), type := 4, pos := "group.go:101", after := #[{ on := 6, ground := Ground.data }, { on := 20, ground := Ground.data }], guard := none }) (v := ?_) rfl (by kernel_rfl) (by kernel_rfl) (by kernel_rfl) (fun _ _ _ h => h) (Or.inl ⟨by rfl, ?_⟩) (by assumption) ?_; rotate_left; · (intro wq hSw; (try dsimp only at hSw); go_simp; try (with_reducible rfl)))
              try simp only [Act.put, List.setIfInBounds_toArray, List.set_cons_zero, List.set_cons_succ]
              refine wpAnyH_done (by kernel_rfl) ?_ _
              clear c0 c1 cm clk
              clear hHeld
              go_wp2
              go_roundg k1
              case measure => omega
              case rel => exact ⟨k, true, i + 1, rfl, rfl, by rw [ws.out], ⟨by have := HK.out; omega, ⟨hk4.out.1, hk4.out.2.1⟩, r2.out⟩, ⟨below_step hbx2.out (by repeat (first | assumption | exact Below.refl _ _ | refine pw_below_drewN ?_ _ | refine below_drew ?_))⟩⟩
            · have b3 : decide (u ≤ u2) = false := decide_eq_false hlt
              have r2 := r.trans (by rw [if_neg (fun h => h.2.elim (fun h => by cases h) hlt)])
              replace r2 := Aside0.mk r2
              replace r := Aside0.mk r
              clear hz4 hz0 hlt
              go_upto_region 7 with (go_at_call 8; refine (hO.out _ (by repeat (first | assumption | exact Below.refl _ _ | refine pw_below_drewN ?_ _ | refine below_drew ?_))).mono ?_; rintro e w2 ⟨rfl, hb2⟩)
              refine wp_region_held_drew (S := (fun w' => w'.cell? ⟨hb, 0, none⟩ = some (.int .i64 u) ∧ w'.cell? ⟨hb, 1, none⟩ = some (.int .i64 m) ∧ w'.cell? ⟨bb, 0, none⟩ = some (.map (some mb)) ∧ (Instr.lookup 47 (.map (some mb)) (.int .i64 bs) false).run Try.prog w' = .ok (.agg #[.int .i64 u2, .int .i64 m2]) w')) (by kernel_rfl) (hS.out w2.drew (below_drew hb2)) (fun hHeld => ?_)
              first
                | (refine wpAnyH_take (i := 0) (oi := { dst := some 28, op := Op.move (Operand.tmp 9), type := 3, pos := "group.go:101", after := #[], guard := none }) (v := undef) rfl (by kernel_rfl) (by kernel_rfl) (by kernel_rfl) (fun _ _ _ h => h) (Or.inr ⟨by rfl, rfl⟩) (by assumption) ?_)
                | (refine wpAnyH_take (i := 0) (oi := { dst := some 28, op := Op.move (Operand.tmp 9), type := 3, pos := "group.go:101", after := #[], guard := none }) (v := ?_) rfl (by kernel_rfl) (by kernel_rfl) (by kernel_rfl) (fun _ _ _ h => h) (Or.inl ⟨by rfl, ?_⟩) (by assumption) ?_; rotate_left; · (intro wq hSw; (try dsimp only at hSw); go_simp; try (with_reducible rfl)))
              try simp only [Act.put, List.setIfInBounds_toArray, List.set_cons_zero, List.set_cons_succ]
              first
                | (refine wpAnyH_take (i := 1) (oi := { dst := some 29, op := Op.binOp BinOp.neq 3 (Operand.tmp 28) (Operand.const (Value.int IntKind.i64 4)) 3, type := 4, pos := "group.go:101", after := #[{ on := 0, ground := Ground.data }], guard := none }) (v := undef) rfl (by kernel_rfl) (by kernel_rfl) (by kernel_rfl) (fun _ _ _ h => h) (Or.inr ⟨by rfl, rfl⟩) (by assumption) ?_)
                | (refine wpAnyH_take (i := 1) (oi := { dst := some 29, op := Op.binOp BinOp.neq 3 (Operand.tmp 28) (Operand.const (Value.int IntKind.i64 4)) 3, type := 4, pos := "group.go:101", after := #[{ on := 0, ground := Ground.data }], guard := none }) (v := ?_) rfl (by kernel_rfl) (by kernel_rfl) (by kernel_rfl) (fun _ _ _ h => h) (Or.inl ⟨by rfl, ?_⟩) (by assumption) ?_; rotate_left; · (intro wq hSw; (try dsimp only at hSw); go_simp; try (with_reducible rfl)))
              try simp only [Act.put, List.setIfInBounds_toArray, List.set_cons_zero, List.set_cons_succ]
              first
                | (refine wpAnyH_take (i := 2) (oi := { dst := some 30, op := Op.move (Operand.tmp 29), type := 4, pos := "group.go:101", after := #[{ on := 1, ground := Ground.data }], guard := none }) (v := undef) rfl (by kernel_rfl) (by kernel_rfl) (by kernel_rfl) (fun _ _ _ h => h) (Or.inr ⟨by rfl, rfl⟩) (by assumption) ?_)
                | (refine wpAnyH_take (i := 2) (oi := { dst := some 30, op := Op.move (Operand.tmp 29), type := 4, pos := "group.go:101", after := #[{ on := 1, ground := Ground.data }], guard := none }) (v := ?_) rfl (by kernel_rfl) (by kernel_rfl) (by kernel_rfl) (fun _ _ _ h => h) (Or.inl ⟨by rfl, ?_⟩) (by assumption) ?_; rotate_left; · (intro wq hSw; (try dsimp only at hSw); go_simp; try (with_reducible rfl)))
              try simp only [Act.put, List.setIfInBounds_toArray, List.set_cons_zero, List.set_cons_succ]
              first
                | (refine wpAnyH_take (i := 3) (oi := { dst := some 31, op := Op.move (Operand.tmp 9), type := 3, pos := "group.go:101", after := #[{ on := 2, ground := Ground.guard }], guard := some (2, true) }) (v := undef) rfl (by kernel_rfl) (by kernel_rfl) (by kernel_rfl) (fun _ _ _ h => h) (Or.inr ⟨by rfl, rfl⟩) (by assumption) ?_)
                | (refine wpAnyH_take (i := 3) (oi := { dst := some 31, op := Op.move (Operand.tmp 9), type := 3, pos := "group.go:101", after := #[{ on := 2, ground := Ground.guard }], guard := some (2, true) }) (v := ?_) rfl (by kernel_rfl) (by kernel_rfl) (by kernel_rfl) (fun _ _ _ h => h) (Or.inl ⟨by rfl, ?_⟩) (by assumption) ?_; rotate_left; · (intro wq hSw; (try dsimp only at hSw); go_simp; try (with_reducible rfl)))
              try simp only [Act.put, List.setIfInBounds_toArray, List.set_cons_zero, List.set_cons_succ]
              first
                | (refine wpAnyH_take (i := 4) (oi := { dst := some 32, op := Op.binOp BinOp.neq 3 (Operand.tmp 31) (Operand.const (Value.int IntKind.i64 0)) 3, type := 4, pos := "group.go:101", after := #[{ on := 3, ground := Ground.data }, { on := 2, ground := Ground.guard }], guard := some (2, true) }) (v := undef) rfl (by kernel_rfl) (by kernel_rfl) (by kernel_rfl) (fun _ _ _ h => h) (Or.inr ⟨by rfl, rfl⟩) (by assumption) ?_)
                | (refine wpAnyH_take (i := 4) (oi := { dst := some 32, op := Op.binOp BinOp.neq 3 (Operand.tmp 31) (Operand.const (Value.int IntKind.i64 0)) 3, type := 4, pos := "group.go:101", after := #[{ on := 3, ground := Ground.data }, { on := 2, ground := Ground.guard }], guard := some (2, true) }) (v := ?_) rfl (by kernel_rfl) (by kernel_rfl) (by kernel_rfl) (fun _ _ _ h => h) (Or.inl ⟨by rfl, ?_⟩) (by assumption) ?_; rotate_left; · (intro wq hSw; (try dsimp only at hSw); go_simp; try (with_reducible rfl)))
              try simp only [Act.put, List.setIfInBounds_toArray, List.set_cons_zero, List.set_cons_succ]
              first
                | (refine wpAnyH_take (i := 5) (oi := { dst := some 33, op := Op.pick (Operand.tmp 30) (Operand.tmp 32) (Operand.const (Value.bool false)), type := 4, pos := "group.go:101", after := #[{ on := 2, ground := Ground.data }, { on := 4, ground := Ground.data }], guard := none }) (v := undef) rfl (by kernel_rfl) (by kernel_rfl) (by kernel_rfl) (fun _ _ _ h => h) (Or.inr ⟨by rfl, rfl⟩) (by assumption) ?_)
                | (refine wpAnyH_take (i := 5) (oi := { dst := some 33, op := Op.pick (Operand.tmp 30) (Operand.tmp 32) (Operand.const (Value.bool false)), type := 4, pos := "group.go:101", after := #[{ on := 2, ground := Ground.data }, { on := 4, ground := Ground.data }], guard := none }) (v := ?_) rfl (by kernel_rfl) (by kernel_rfl) (by kernel_rfl) (fun _ _ _ h => h) (Or.inl ⟨by rfl, ?_⟩) (by assumption) ?_; rotate_left; · (intro wq hSw; (try dsimp only at hSw); go_simp; try (with_reducible rfl)))
              try simp only [Act.put, List.setIfInBounds_toArray, List.set_cons_zero, List.set_cons_succ]
              first
                | (refine wpAnyH_take (i := 6) (oi := { dst := some 34, op := Op.move (Operand.tmp 33), type := 4, pos := "group.go:101", after := #[{ on := 5, ground := Ground.data }, { on := 2, ground := Ground.chain }], guard := none }) (v := undef) rfl (by kernel_rfl) (by kernel_rfl) (by kernel_rfl) (fun _ _ _ h => h) (Or.inr ⟨by rfl, rfl⟩) (by assumption) ?_)
                | (refine wpAnyH_take (i := 6) (oi := { dst := some 34, op := Op.move (Operand.tmp 33), type := 4, pos := "group.go:101", after := #[{ on := 5, ground := Ground.data }, { on := 2, ground := Ground.chain }], guard := none }) (v := ?_) rfl (by kernel_rfl) (by kernel_rfl) (by kernel_rfl) (fun _ _ _ h => h) (Or.inl ⟨by rfl, ?_⟩) (by assumption) ?_; rotate_left; · (intro wq hSw; (try dsimp only at hSw); go_simp; try (with_reducible rfl)))
              try simp only [Act.put, List.setIfInBounds_toArray, List.set_cons_zero, List.set_cons_succ]
              first
                | (refine wpAnyH_take (i := 7) (oi := { dst := some 35, op := Op.move (Operand.tmp 5), type := 4, pos := "group.go:101", after := #[{ on := 6, ground := Ground.guard }], guard := some (6, true) }) (v := undef) rfl (by kernel_rfl) (by kernel_rfl) (by kernel_rfl) (fun _ _ _ h => h) (Or.inr ⟨by rfl, rfl⟩) (by assumption) ?_)
                | (refine wpAnyH_take (i := 7) (oi := { dst := some 35, op := Op.move (Operand.tmp 5), type := 4, pos := "group.go:101", after := #[{ on := 6, ground := Ground.guard }], guard := some (6, true) }) (v := ?_) rfl (by kernel_rfl) (by kernel_rfl) (by kernel_rfl) (fun _ _ _ h => h) (Or.inl ⟨by rfl, ?_⟩) (by assumption) ?_; rotate_left; · (intro wq hSw; (try dsimp only at hSw); go_simp; try (with_reducible rfl)))
              try simp only [Act.put, List.setIfInBounds_toArray, List.set_cons_zero, List.set_cons_succ]
              first
                | (refine wpAnyH_take (i := 8) (oi := { dst := some 36, op := Op.unOp UnOp.not 4 (Operand.tmp 35), type := 4, pos := "group.go:101", after := #[{ on := 7, ground := Ground.data }, { on := 6, ground := Ground.guard }], guard := some (6, true) }) (v := undef) rfl (by kernel_rfl) (by kernel_rfl) (by kernel_rfl) (fun _ _ _ h => h) (Or.inr ⟨by rfl, rfl⟩) (by assumption) ?_)
                | (refine wpAnyH_take (i := 8) (oi := { dst := some 36, op := Op.unOp UnOp.not 4 (Operand.tmp 35), type := 4, pos := "group.go:101", after := #[{ on := 7, ground := Ground.data }, { on := 6, ground := Ground.guard }], guard := some (6, true) }) (v := ?_) rfl (by kernel_rfl) (by kernel_rfl) (by kernel_rfl) (fun _ _ _ h => h) (Or.inl ⟨by rfl, ?_⟩) (by assumption) ?_; rotate_left; · (intro wq hSw; (try dsimp only at hSw); go_simp; try (with_reducible rfl)))
              try simp only [Act.put, List.setIfInBounds_toArray, List.set_cons_zero, List.set_cons_succ]
              first
                | (refine wpAnyH_take (i := 9) (oi := { dst := some 37, op := Op.move (Operand.tmp 36), type := 4, pos := "group.go:101", after := #[{ on := 8, ground := Ground.data }, { on := 6, ground := Ground.chain }, { on := 6, ground := Ground.guard }], guard := some (6, true) }) (v := undef) rfl (by kernel_rfl) (by kernel_rfl) (by kernel_rfl) (fun _ _ _ h => h) (Or.inr ⟨by rfl, rfl⟩) (by assumption) ?_)
                | (refine wpAnyH_take (i := 9) (oi := { dst := some 37, op := Op.move (Operand.tmp 36), type := 4, pos := "group.go:101", after := #[{ on := 8, ground := Ground.data }, { on := 6, ground := Ground.chain }, { on := 6, ground := Ground.guard }], guard := some (6, true) }) (v := ?_) rfl (by kernel_rfl) (by kernel_rfl) (by kernel_rfl) (fun _ _ _ h => h) (Or.inl ⟨by rfl, ?_⟩) (by assumption) ?_; rotate_left; · (intro wq hSw; (try dsimp only at hSw); go_simp; try (with_reducible rfl)))
              try simp only [Act.put, List.setIfInBounds_toArray, List.set_cons_zero, List.set_cons_succ]
              first
                | (refine wpAnyH_take (i := 10) (oi := { dst := some 38, op := Op.fieldAddr 51 (Operand.tmp 8) 0, type := 0, pos := "group.go:101", after := #[{ on := 9, ground := Ground.guard }], guard := some (9, false) }) (v := undef) rfl (by kernel_rfl) (by kernel_rfl) (by kernel_rfl) (fun _ _ _ h => h) (Or.inr ⟨by rfl, rfl⟩) (by assumption) ?_)
                | (refine wpAnyH_take (i := 10) (oi := { dst := some 38, op := Op.fieldAddr 51 (Operand.tmp 8) 0, type := 0, pos := "group.go:101", after := #[{ on := 9, ground := Ground.guard }], guard := some (9, false) }) (v := ?_) rfl (by kernel_rfl) (by kernel_rfl) (by kernel_rfl) (fun _ _ _ h => h) (Or.inl ⟨by rfl, ?_⟩) (by assumption) ?_; rotate_left; · (intro wq hSw; (try dsimp only at hSw); go_simp; try (with_reducible rfl)))
              try simp only [Act.put, List.setIfInBounds_toArray, List.set_cons_zero, List.set_cons_succ]
              first
                | (refine wpAnyH_take (i := 11) (oi := { dst := some 39, op := Op.load 3 (Operand.tmp 38), type := 3, pos := "group.go:101", after := #[{ on := 10, ground := Ground.data }, { on := 9, ground := Ground.guard }], guard := some (9, false) }) (v := undef) rfl (by kernel_rfl) (by kernel_rfl) (by kernel_rfl) (fun _ _ _ h => h) (Or.inr ⟨by rfl, rfl⟩) (by assumption) ?_)
                | (refine wpAnyH_take (i := 11) (oi := { dst := some 39, op := Op.load 3 (Operand.tmp 38), type := 3, pos := "group.go:101", after := #[{ on := 10, ground := Ground.data }, { on := 9, ground := Ground.guard }], guard := some (9, false) }) (v := ?_) rfl (by kernel_rfl) (by kernel_rfl) (by kernel_rfl) (fun _ _ _ h => h) (Or.inl ⟨by rfl, ?_⟩) (by assumption) ?_; rotate_left; · (intro wq hSw; (try dsimp only at hSw); go_simp; try (with_reducible rfl)))
              try simp only [Act.put, List.setIfInBounds_toArray, List.set_cons_zero, List.set_cons_succ]
              first
                | (refine wpAnyH_take (i := 12) (oi := { dst := some 40, op := Op.move (Operand.tmp 0), type := 27, pos := "group.go:101", after := #[{ on := 9, ground := Ground.guard }], guard := some (9, false) }) (v := undef) rfl (by kernel_rfl) (by kernel_rfl) (by kernel_rfl) (fun _ _ _ h => h) (Or.inr ⟨by rfl, rfl⟩) (by assumption) ?_)
                | (refine wpAnyH_take (i := 12) (oi := { dst := some 40, op := Op.move (Operand.tmp 0), type := 27, pos := "group.go:101", after := #[{ on := 9, ground := Ground.guard }], guard := some (9, false) }) (v := ?_) rfl (by kernel_rfl) (by kernel_rfl) (by kernel_rfl) (fun _ _ _ h => h) (Or.inl ⟨by rfl, ?_⟩) (by assumption) ?_; rotate_left; · (intro wq hSw; (try dsimp only at hSw); go_simp; try (with_reducible rfl)))
              try simp only [Act.put, List.setIfInBounds_toArray, List.set_cons_zero, List.set_cons_succ]
              first
                | (refine wpAnyH_take (i := 13) (oi := { dst := some 41, op := Op.nilCheck (Operand.tmp 40), type := 0, pos := "group.go:101", after := #[{ on := 12, ground := Ground.data }, { on := 9, ground := Ground.guard }], guard := some (9, false) }) (v := undef) rfl (by kernel_rfl) (by kernel_rfl) (by kernel_rfl) (fun _ _ _ h => h) (Or.inr ⟨by rfl, rfl⟩) (by assumption) ?_)
                | (refine wpAnyH_take (i := 13) (oi := { dst := some 41, op := Op.nilCheck (Operand.tmp 40), type := 0, pos := "group.go:101", after := #[{ on := 12, ground := Ground.data }, { on := 9, ground := Ground.guard }], guard := some (9, false) }) (v := ?_) rfl (by kernel_rfl) (by kernel_rfl) (by kernel_rfl) (fun _ _ _ h => h) (Or.inl ⟨by rfl, ?_⟩) (by assumption) ?_; rotate_left; · (intro wq hSw; (try dsimp only at hSw); go_simp; try (with_reducible rfl)))
              try simp only [Act.put, List.setIfInBounds_toArray, List.set_cons_zero, List.set_cons_succ]
              first
                | (refine wpAnyH_take (i := 14) (oi := { dst := some 42, op := Op.fieldAddr 49 (Operand.tmp 41) 0, type := 0, pos := "group.go:101", after := #[{ on := 13, ground := Ground.data }, { on := 9, ground := Ground.guard }], guard := some (9, false) }) (v := undef) rfl (by kernel_rfl) (by kernel_rfl) (by kernel_rfl) (fun _ _ _ h => h) (Or.inr ⟨by rfl, rfl⟩) (by assumption) ?_)
                | (refine wpAnyH_take (i := 14) (oi := { dst := some 42, op := Op.fieldAddr 49 (Operand.tmp 41) 0, type := 0, pos := "group.go:101", after := #[{ on := 13, ground := Ground.data }, { on := 9, ground := Ground.guard }], guard := some (9, false) }) (v := ?_) rfl (by kernel_rfl) (by kernel_rfl) (by kernel_rfl) (fun _ _ _ h => h) (Or.inl ⟨by rfl, ?_⟩) (by assumption) ?_; rotate_left; · (intro wq hSw; (try dsimp only at hSw); go_simp; try (with_reducible rfl)))
              try simp only [Act.put, List.setIfInBounds_toArray, List.set_cons_zero, List.set_cons_succ]
              first
                | (refine wpAnyH_take (i := 15) (oi := { dst := some 43, op := Op.load 47 (Operand.tmp 42), type := 47, pos := "group.go:101", after := #[{ on := 14, ground := Ground.data }, { on := 9, ground := Ground.guard }], guard := some (9, false) }) (v := undef) rfl (by kernel_rfl) (by kernel_rfl) (by kernel_rfl) (fun _ _ _ h => h) (Or.inr ⟨by rfl, rfl⟩) (by assumption) ?_)
                | (refine wpAnyH_take (i := 15) (oi := { dst := some 43, op := Op.load 47 (Operand.tmp 42), type := 47, pos := "group.go:101", after := #[{ on := 14, ground := Ground.data }, { on := 9, ground := Ground.guard }], guard := some (9, false) }) (v := ?_) rfl (by kernel_rfl) (by kernel_rfl) (by kernel_rfl) (fun _ _ _ h => h) (Or.inl ⟨by rfl, ?_⟩) (by assumption) ?_; rotate_left; · (intro wq hSw; (try dsimp only at hSw); go_simp; try (with_reducible rfl)))
              try simp only [Act.put, List.setIfInBounds_toArray, List.set_cons_zero, List.set_cons_succ]
              first
                | (refine wpAnyH_take (i := 16) (oi := { dst := some 44, op := Op.move (Operand.tmp 4), type := 3, pos := "group.go:101", after := #[{ on := 9, ground := Ground.guard }], guard := some (9, false) }) (v := undef) rfl (by kernel_rfl) (by kernel_rfl) (by kernel_rfl) (fun _ _ _ h => h) (Or.inr ⟨by rfl, rfl⟩) (by assumption) ?_)
                | (refine wpAnyH_take (i := 16) (oi := { dst := some 44, op := Op.move (Operand.tmp 4), type := 3, pos := "group.go:101", after := #[{ on := 9, ground := Ground.guard }], guard := some (9, false) }) (v := ?_) rfl (by kernel_rfl) (by kernel_rfl) (by kernel_rfl) (fun _ _ _ h => h) (Or.inl ⟨by rfl, ?_⟩) (by assumption) ?_; rotate_left; · (intro wq hSw; (try dsimp only at hSw); go_simp; try (with_reducible rfl)))
              try simp only [Act.put, List.setIfInBounds_toArray, List.set_cons_zero, List.set_cons_succ]
              first
                | (refine wpAnyH_take (i := 17) (oi := { dst := some 45, op := Op.lookup 47 (Operand.tmp 43) (Operand.tmp 44) false, type := 51, pos := "group.go:101", after := #[{ on := 15, ground := Ground.data }, { on := 16, ground := Ground.data }, { on := 9, ground := Ground.guard }], guard := some (9, false) }) (v := undef) rfl (by kernel_rfl) (by kernel_rfl) (by kernel_rfl) (fun _ _ _ h => h) (Or.inr ⟨by rfl, rfl⟩) (by assumption) ?_)
                | (refine wpAnyH_take (i := 17) (oi := { dst := some 45, op := Op.lookup 47 (Operand.tmp 43) (Operand.tmp 44) false, type := 51, pos := "group.go:101", after := #[{ on := 15, ground := Ground.data }, { on := 16, ground := Ground.data }, { on := 9, ground := Ground.guard }], guard := some (9, false) }) (v := ?_) rfl (by kernel_rfl) (by kernel_rfl) (by kernel_rfl) (fun _ _ _ h => h) (Or.inl ⟨by rfl, ?_⟩) (by assumption) ?_; rotate_left; · (intro wq hSw; (try dsimp only at hSw); go_simp; try (with_reducible rfl)))
              try simp only [Act.put, List.setIfInBounds_toArray, List.set_cons_zero, List.set_cons_succ]
              first
                | (refine wpAnyH_take (i := 18) (oi := { dst := some 46, op := Op.field 51 (Operand.tmp 45) 0, type := 3, pos := "group.go:101", after := #[{ on := 17, ground := Ground.data }, { on := 9, ground := Ground.guard }], guard := some (9, false) }) (v := undef) rfl (by kernel_rfl) (by kernel_rfl) (by kernel_rfl) (fun _ _ _ h => h) (Or.inr ⟨by rfl, rfl⟩) (by assumption) ?_)
                | (refine wpAnyH_take (i := 18) (oi := { dst := some 46, op := Op.field 51 (Operand.tmp 45) 0, type := 3, pos := "group.go:101", after := #[{ on := 17, ground := Ground.data }, { on := 9, ground := Ground.guard }], guard := some (9, false) }) (v := ?_) rfl (by kernel_rfl) (by kernel_rfl) (by kernel_rfl) (fun _ _ _ h => h) (Or.inl ⟨by rfl, ?_⟩) (by assumption) ?_; rotate_left; · (intro wq hSw; (try dsimp only at hSw); go_simp; try (with_reducible rfl)))
              try simp only [Act.put, List.setIfInBounds_toArray, List.set_cons_zero, List.set_cons_succ]
              first
                | (refine wpAnyH_take (i := 19) (oi := { dst := some 47, op := Op.binOp BinOp.leq 3 (Operand.tmp 39) (Operand.tmp 46) 3, type := 4, pos := "group.go:101", after := #[{ on := 11, ground := Ground.data }, { on := 18, ground := Ground.data }, { on := 9, ground := Ground.guard }], guard := some (9, false) }) (v := undef) rfl (by kernel_rfl) (by kernel_rfl) (by kernel_rfl) (fun _ _ _ h => h) (Or.inr ⟨by rfl, rfl⟩) (by assumption) ?_)
                | (refine wpAnyH_take (i := 19) (oi := { dst := some 47, op := Op.binOp BinOp.leq 3 (Operand.tmp 39) (Operand.tmp 46) 3, type := 4, pos := "group.go:101", after := #[{ on := 11, ground := Ground.data }, { on := 18, ground := Ground.data }, { on := 9, ground := Ground.guard }], guard := some (9, false) }) (v := ?_) rfl (by kernel_rfl) (by kernel_rfl) (by kernel_rfl) (fun _ _ _ h => h) (Or.inl ⟨by rfl, ?_⟩) (by assumption) ?_; rotate_left; · (intro wq hSw; (try dsimp only at hSw); go_simp; try (with_reducible rfl)))
              try simp only [Act.put, List.setIfInBounds_toArray, List.set_cons_zero, List.set_cons_succ]
              first
                | (refine wpAnyH_take (i := 20) (oi := { dst := some 48, op := Op.pick (Operand.tmp 37) (Operand.const (Value.bool true)) (Operand.tmp 47), type := 4, pos := "group.go:101", after := #[{ on := 9, ground := Ground.data }, { on := 19, ground := Ground.data }, { on := 6, ground := Ground.guard }], guard := some (6, true) }) (v := undef) rfl (by kernel_rfl) (by kernel_rfl) (by kernel_rfl) (fun _ _ _ h => h) (Or.inr ⟨by rfl, rfl⟩) (by assumption) ?_)
                | (refine wpAnyH_take (i := 20) (oi := { dst := some 48, op := Op.pick (Operand.tmp 37) (Operand.const (Value.bool true)) (Operand.tmp 47), type := 4, pos := "group.go:101", after := #[{ on := 9, ground := Ground.data }, { on := 19, ground := Ground.data }, { on := 6, ground := Ground.guard }], guard := some (6, true) }) (v := ?_) rfl (by kernel_rfl) (by kernel_rfl) (by kernel_rfl) (fun _ _ _ h => h) (Or.inl ⟨by rfl, ?_⟩) (by assumption) ?_; rotate_left; · (intro wq hSw; (try dsimp only at hSw); go_simp; try (with_reducible rfl)))
              try simp only [Act.put, List.setIfInBounds_toArray, List.set_cons_zero, List.set_cons_succ]
              first
                | (refine wpAnyH_take (i := 21) (oi := { dst := some 49, op := Op.pick (Operand.tmp 34) (Operand.tmp 48) (Operand.const (Value.bool false)), type := 4, pos := "group.go:101", after := #[{ on := 6, ground := Ground.data }, { on := 20, ground := Ground.data }], guard := none }) (v := undef) rfl (by kernel_rfl) (by kernel_rfl) (by kernel_rfl) (fun _ _ _ h => h) (Or.inr ⟨by rfl, rfl⟩) (by assumption) ?_)
                | (refine wpAnyH_take (i := 21) (oi := { dst := some 49, op := Op.pick (Operand.tmp 34) (Operand.tmp 48) (Operand.const (Value.bool false)), type := 4, pos := "group.go:101", after := #[{ on := 6, ground := Ground.data }, { on := 20, ground := Ground.data }], guard := none }) (v := ?_) rfl (by kernel_rfl) (by kernel_rfl) (by kernel_rfl) (fun _ _ _ h => h) (Or.inl ⟨by rfl, ?_⟩) (by assumption) ?_; rotate_left; · (intro wq hSw; (try dsimp only at hSw); go_simp; try (with_reducible rfl)))
              try simp only [Act.put, List.setIfInBounds_toArray, List.set_cons_zero, List.set_cons_succ]
              refine wpAnyH_done (by kernel_rfl) ?_ _
              clear c0 c1 cm clk
              clear hHeld
              go_wp2
              go_roundg k1
              case measure => omega
              case rel => exact ⟨bs, true, i + 1, rfl, rfl, by rw [ws.out], ⟨by have := HK.out; omega, ⟨HK.out.2.1.1, HK.out.2.1.2⟩, r2.out⟩, ⟨below_step hbx2.out (by repeat (first | assumption | exact Below.refl _ _ | refine pw_below_drewN ?_ _ | refine below_drew ?_))⟩⟩
end Go.Proofs.Ytoljebdicjiogaa.Hand
