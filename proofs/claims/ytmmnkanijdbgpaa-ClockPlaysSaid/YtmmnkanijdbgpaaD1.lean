/- The document's clock, by value: New, Add, Remove, Frame, walked by hand. -/
import Derived.Test.YtmmnkanijdbgpaaC6
import Derived.Laws.Tables
namespace Go.Proofs.Ytmmnkanijdbgpaa.Hand
set_option linter.unusedVariables false
set_option linter.unusedSimpArgs false
open Go.RowKit Go.Proofs.Ytmmnkanijdbgpaa.R Go.Proofs.YtmmnkanijdbgpaaW.PrintWords Go.Proofs.YtmmnkanijdbgpaaW.PrintLast Go.Proofs.YtmmnkanijdbgpaaW.PrintMore

theorem info41 : (Try.prog.info? 41).map (·.size) = some 97 := by kernel_rfl
theorem ints_size (L : List Int) : (ints L).size = L.length := by unfold ints; simp
theorem ints_one (L : List Int) : (ints L).all (·.oneCell') = true := by
  refine Array.all_eq_true_iff_forall_mem.2 (fun v hv => ?_)
  unfold ints at hv
  simp only [List.mem_toArray, List.mem_map] at hv
  obtain ⟨x, _, rfl⟩ := hv
  rfl
/-- The document's clock in a block. -/
def PS (w : World) (g : Nat) (P : List Int) : Prop := w.heap[g]? = some (.cells (ints P) 41 (0, 0))
theorem setRow_same {w : World} {g : Nat} {P Q : List Int} (h : PS w g P) : PS (w.setRow g (ints Q)) g Q := by
  obtain ⟨hlt, hk⟩ := Array.getElem?_eq_some_iff.1 (show w.heap[g]? = _ from h)
  show (w.heap.modify g _)[g]? = _
  rw [Array.getElem?_eq_getElem (by rw [Array.size_modify]; exact hlt), Array.getElem_modify_self, hk]
theorem setRow_far (w : World) (g : Nat) (C : Array Value) : Far (fun x => x = g) w (w.setRow g C) := by
  refine ⟨rfl, rfl, rfl, by show w.heap.size ≤ (w.heap.modify g _).size; simp, fun k hk hn => ?_⟩
  show (w.heap.modify g _)[k]? = _
  rw [Array.getElem?_modify, if_neg (fun e => hn e.symm)]
section
variable {ops : Array Oper} {rest : List Oper} {o : Oper} {a : Act} {w : World} {Q : Exit → Act → World → Prop}
theorem gate_ld {x : Operand} (h : o.op = .load 41 x) (k : wpList Try.prog ops Q (o :: rest) a w) : wpList Try.prog ops Q (o :: rest) a w := k
theorem gate_st {x y : Operand} (h : o.op = .store 41 x y) (k : wpList Try.prog ops Q (o :: rest) a w) : wpList Try.prog ops Q (o :: rest) a w := k
theorem wl_ld (hgd : o.guard = none) (x : Operand) (ho : o.op = .load 41 x) {g : Nat} {P : List Int} (hx : a.eval x = .pointer (some ⟨g, 0, none⟩)) (h : PS w g P) (hP : P.length = 97)
    (k : wpList Try.prog ops Q rest (a.put o.dst (.agg (ints P))) w) : wpList Try.prog ops Q (o :: rest) a w :=
  wpList_plain hgd fun _ hK => wp_load_row 41 x ho g hx 41 (ints P) (0, 0) _ h Try.underlying41 rfl (by rw [info41, ints_size, hP]) (hK _ _ k)
theorem wl_st (hgd : o.guard = none) (x y : Operand) (ho : o.op = .store 41 x y) {g : Nat} {P R : List Int} (hx : a.eval x = .pointer (some ⟨g, 0, none⟩)) (hy : a.eval y = .agg (ints R)) (h : PS w g P) (hP : P.length = 97) (hR : R.length = 97)
    (k : ∀ w', PS w' g R → Far (fun i => i = g) w w' → wpList Try.prog ops Q rest (a.put o.dst undef) w') : wpList Try.prog ops Q (o :: rest) a w :=
  wpList_plain hgd fun _ hK => wp_store_row 41 x y ho g (ints R) hx hy 41 (ints P) h (by rw [info41, ints_size, hR]) (by rw [ints_size, ints_size, hP, hR]) (ints_one R) (hK _ _ (k _ (setRow_same h) (setRow_far _ _ _)))
end
theorem results_cell1 {fn : Func} {p : Tmp} (h : fn.results = #[.cell p 41]) (tmps : Array Value) (w : World) (g : Nat) (P : List Int) (hL : P.length = 97)
    (hp : tmps.getD p undef = .pointer (some ⟨g, 0, none⟩)) (hg : PS w g P) : (results fn tmps).run Try.prog w = .ok (.agg (ints P)) w := by
  have hp' : tmps[p]?.getD undef = .pointer (some ⟨g, 0, none⟩) := by simpa using hp
  simp [results, h, hp', asAddr, run_loadVar_row w g 41 41 (ints P) (0, 0) _ hg Try.underlying41 rfl (by rw [info41, ints_size, hL])]
theorem results_cell2 {fn : Func} {p x : Tmp} (h : fn.results = #[.cell p 41, .tmp x]) (tmps : Array Value) (w : World) (g : Nat) (P : List Int) (hL : P.length = 97)
    (hp : tmps.getD p undef = .pointer (some ⟨g, 0, none⟩)) (hg : PS w g P) : (results fn tmps).run Try.prog w = .ok (.tuple #[.agg (ints P), tmps.getD x undef]) w := by
  have hp' : tmps[p]?.getD undef = .pointer (some ⟨g, 0, none⟩) := by simpa using hp
  simp [results, h, hp', asAddr, run_loadVar_row w g 41 41 (ints P) (0, 0) _ hg Try.underlying41 rfl (by rw [info41, ints_size, hL])]
theorem results_cell3 {fn : Func} {p x y : Tmp} (h : fn.results = #[.cell p 41, .tmp x, .tmp y]) (tmps : Array Value) (w : World) (g : Nat) (P : List Int) (hL : P.length = 97)
    (hp : tmps.getD p undef = .pointer (some ⟨g, 0, none⟩)) (hg : PS w g P) : (results fn tmps).run Try.prog w = .ok (.tuple #[.agg (ints P), tmps.getD x undef, tmps.getD y undef]) w := by
  have hp' : tmps[p]?.getD undef = .pointer (some ⟨g, 0, none⟩) := by simpa using hp
  simp [results, h, hp', asAddr, run_loadVar_row w g 41 41 (ints P) (0, 0) _ hg Try.underlying41 rfl (by rw [info41, ints_size, hL])]
def zer97 : List Int := List.replicate 97 0
theorem zv41 (w : World) : (zeroValue 41).run Try.prog w = .ok (.agg (ints zer97)) w := by kernel_rfl
def newP (i : Nat) : List Int := List.replicate i (-1) ++ List.replicate (97 - i) 0
theorem newP_length (i : Nat) (h : i ≤ 97) : (newP i).length = 97 := by unfold newP; rw [List.length_append, List.length_replicate, List.length_replicate]; omega
theorem newP_set (i : Nat) (h : i < 97) : (newP i).set i (-1) = newP (i + 1) := by
  unfold newP
  rw [List.set_append_right _ _ (by rw [List.length_replicate]; exact Nat.le_refl _), List.length_replicate, Nat.sub_self, show 97 - i = (97 - (i + 1)) + 1 by omega, List.replicate_succ, List.set_cons_zero, List.replicate_succ', List.append_assoc]
  rfl
theorem built41 : Try.prog.built 41 [] = some (ints zer97) := by kernel_rfl
theorem zne : ¬ ints zer97 = #[] := by
  intro e
  have := congrArg Array.size e
  rw [ints_size] at this
  revert this
  decide
theorem lz97 : zer97.length = 97 := List.length_replicate
set_option maxHeartbeats 8000000 in
set_option maxRecDepth 100000 in
theorem rnew_calls (w : World) : Calls Try.prog 17 #[] w fun e w' => e = .returned (.agg (ints (newP 96))) ∧ Below w.heap.size w w' := by
  have hz := zv41
  have hne := zne
  have hbu := built41
  have hp0 : PS (w.alloc (.cells (ints zer97) 41 (0, 0))) w.heap.size zer97 := blk_new w _
  have hp1 : PS ((w.alloc (.cells (ints zer97) 41 (0, 0))).alloc (.cells (ints zer97) 41 (0, 0))) (w.heap.size + 1) zer97 := by
    have := blk_new (w.alloc (.cells (ints zer97) 41 (0, 0))) (.cells (ints zer97) 41 (0, 0))
    rw [World.size_alloc] at this
    exact this
  have hp0' := blk_alloc hp0 (.cells (ints zer97) 41 (0, 0))
  have hb := below_alloc (below_alloc (Below.refl _ w) (.cells (ints zer97) 41 (0, 0))) (.cells (ints zer97) 41 (0, 0))
  replace hp0' := Aside0.mk hp0'
  replace hp1 := Aside0.mk hp1
  replace hb := Aside0.mk hb
  clear hp0
  go_enter Try.func17, Try.ntmps17
  go_upto_region 2 with (refine wl_st rfl _ _ rfl rfl rfl hp1.out lz97 lz97 ?_; intro w3 hp3 hf3; have hq3 := Aside0.mk (hf3.blk hp0'.out (fun e => by omega)); have hb3 := Aside0.mk (hb.out.trans (hf3.below hb.out.size (fun i e => by rw [e]; omega))); replace hp3 := Aside0.mk hp3; clear hf3)
  clear hz hne hbu hp0' hp1 hb
  have hp3' : Aside0 (PS w3 (w.heap.size + 1) (newP 0)) := hp3
  have hq3' : Aside0 (PS w3 w.heap.size zer97) := hq3
  clear hp3 hq3
  go_wp2
  go_loopg [2] 96 (fun kq v2 w' => ∃ (i : Nat), v2 = .int .i64 (i : Int) ∧ Aside0 (i + kq = 96) ∧ Aside0 (PS w' (w.heap.size + 1) (newP i)) ∧ Aside0 (PS w' w.heap.size zer97) ∧ Aside0 (Below w.heap.size w w'))
  case atStart => exact ⟨0, rfl, ⟨by omega⟩, hp3', hq3', hb3⟩
  case round =>
    obtain ⟨i, rfl, HK, HP, HQ, HB⟩ := hrel
    clear hp3' hq3' hb3
    cases gk with
    | zero =>
      obtain rfl : i = 96 := by have := HK.out; omega
      have hl := newP_length 96 (by omega)
      replace hl := Aside0.mk hl
      go_wp2_with (first | (refine wl_ld rfl _ rfl rfl HP.out hl.out ?_) | (refine wl_st rfl _ _ rfl rfl rfl HQ.out lz97 hl.out ?_; intro w5 hp5 hf5; replace hp5 := Aside0.mk hp5; replace hf5 := Aside0.mk hf5))
      exact bodyPost_ret (results_cell1 rfl _ _ w.heap.size (newP 96) hl.out rfl hp5.out) rfl ⟨rfl, HB.out.trans (hf5.out.below HB.out.size (fun i e => by rw [e]; exact Nat.le_refl _))⟩
    | succ kk =>
      have hi : i < 96 := by have := HK.out; omega
      have e1 : decide ((i : Int) < 96) = true := decide_eq_true (by omega)
      have e2 : decide (i < 96) = true := decide_eq_true hi
      have i0 : (0 : Int) ≤ (i : Int) := by omega
      have i1 : (i : Int) < 96 := by omega
      have kx := ints_cell HP.out i (by rw [newP_length i (by omega)]; omega)
      have fx := blk_frozen HP.out i
      have hset : PS (wr.setCell ⟨w.heap.size + 1, i, none⟩ (.int .i64 (-1))) (w.heap.size + 1) (newP (i + 1)) := by
        have := ints_set HP.out i (-1)
        rw [newP_set i (by omega)] at this
        exact this
      have hfar := Far.setCell (S := fun x => x = w.heap.size + 1) (Far.refl _ wr) (p := ⟨w.heap.size + 1, i, none⟩) (.inl rfl) (.int .i64 (-1))
      have hq5 : PS (wr.setCell ⟨w.heap.size + 1, i, none⟩ (.int .i64 (-1))) w.heap.size zer97 := hfar.blk HQ.out (fun e => by omega)
      have ws := Aside0.mk (w64s i (by omega))
      replace hset := Aside0.mk hset
      replace hfar := Aside0.mk hfar
      replace hq5 := Aside0.mk hq5
      go_wp2
      go_roundg kk
      case measure => omega
      case rel => exact ⟨i + 1, by first | rw [ws.out] | rfl, ⟨by have := HK.out; omega⟩, hset, hq5, ⟨HB.out.trans (hfar.out.below HB.out.size (fun i e => by have e' : i = w.heap.size + 1 := e; omega))⟩⟩


end Go.Proofs.Ytmmnkanijdbgpaa.Hand
