/- A book: New, Put, Drop; a book that isn't there: walked. -/
import Derived.Test.YtoljebdicjiogaaG3
import Derived.Maps.OwnOps
namespace Go.Proofs.Ytoljebdicjiogaa.Hand
set_option linter.unusedVariables false
set_option linter.unusedSimpArgs false
open Go.RowKit Go.Maps Go.Proofs.Ytoljebdicjiogaa.R Go.Proofs.YtoljebdicjiogaaW.PrintWords Go.Proofs.YtoljebdicjiogaaW.PrintLast Go.Proofs.YtoljebdicjiogaaW.PrintMore

theorem zero51 (w : World) : (zeroValue 51).run Try.prog w = .ok (.agg #[.int .i64 0, .int .i64 0]) w := by kernel_rfl
/-- What a number has: how many are taken, how many there are. -/
def U (l : List S30) (n : Int) : Int × Int := match l.find? (fun h => h.f0 == n) with
  | some h => (h.f1, h.f2)
  | none => (0, 0)
theorem RelD.look {D : DataW Unit} {l : List S30} (h : RelD D l) (k : Int) : D.atKey (.int .i64 k) (pairD 0 0) = pairD (U l k).1 (U l k).2 := by
  unfold U
  cases hf : l.find? (fun h => h.f0 == k) with
  | none =>
    have h1 : Maps.has D (.int .i64 k) = false := by
      rw [h.has k, List.any_eq_false]
      intro y hy
      exact List.find?_eq_none.1 hf y hy
    exact atKey_of_not_has h1 _
  | some y =>
    have h1 : y.f0 = k := by simpa using List.find?_some hf
    rw [← h1]
    exact h.at_ y (List.mem_of_find?_eq_some hf) _
theorem bk_look {w : World} {bb mb n : Nat} {D : DataW Unit} {l : List S30} (hB : BK w bb mb n D) (hR : RelD D l) (k : Int) (hk : (Lit.int .i64 k).wf = true) :
    (Instr.lookup 47 (.map (some mb)) (.int .i64 k) false).run Try.prog w = .ok (.agg #[.int .i64 (U l k).1, .int .i64 (U l k).2]) w := by
  obtain ⟨v, ps, hrun, hv⟩ := hB.own.lookup law3 Try.underlying47 (zero51 w) (pairR_mk 0 0) (keyOf_int_mk Try.underlying3 hk)
  rw [hR.look k] at hv
  rw [pairR_inv hv] at hrun
  exact hrun
theorem bk_look_ok {w : World} {bb mb n : Nat} {D : DataW Unit} {l : List S30} (hB : BK w bb mb n D) (hR : RelD D l) (k : Int) (hk : (Lit.int .i64 k).wf = true) :
    (Instr.lookup 47 (.map (some mb)) (.int .i64 k) true).run Try.prog w = .ok (.tuple #[.agg #[.int .i64 (U l k).1, .int .i64 (U l k).2], .bool (Maps.has D (.int .i64 k))]) w := by
  obtain ⟨v, ps, hrun, hv⟩ := hB.own.look_ok law3 Try.underlying47 (zero51 w) (pairR_mk 0 0) (keyOf_int_mk Try.underlying3 hk)
  rw [hR.look k] at hv
  rw [pairR_inv hv] at hrun
  exact hrun
theorem BK.ne {w : World} {bb mb n : Nat} {D : DataW Unit} (h : BK w bb mb n D) : bb ≠ mb := by
  intro e
  obtain ⟨es, clock, hb, _⟩ := h.own
  have := h.blk
  rw [e, hb] at this
  cases this
theorem far_grown {w w' : World} {b : Nat} (h : w.grownBy w' (some b)) : Far (fun x => x = b) w w' :=
  ⟨h.os, h.tape, h.output, h.size, fun k hk hn => h.block k hk (fun e => hn (Option.some.inj e))⟩

set_option maxHeartbeats 8000000 in
set_option maxRecDepth 100000 in
theorem newb_calls (w : World) : Calls Try.prog 10 #[] w fun e w' => e = .returned (.pointer (some ⟨w.heap.size + 1, 0, none⟩)) ∧ BK w' (w.heap.size + 1) w.heap.size 0 (.map []) ∧ Below w.heap.size w w' := by
  have hmm := @run_makeMap Try.prog
  have h1 := World.ownsMap_made (H := Unit) w Try.prog 3 pairR
  have h2 : Below w.heap.size w ((w.alloc (.map #[] 0)).alloc (.cells #[.map (some w.heap.size)] 49 (0, 0))) := below_alloc (below_alloc (Below.refl _ w) _) _
  have hs : (w.alloc (.map #[] 0)).heap.size = w.heap.size + 1 := World.size_alloc _ _
  have h3 : BK ((w.alloc (.map #[] 0)).alloc (.cells #[.map (some w.heap.size)] 49 (0, 0))) (w.heap.size + 1) w.heap.size 0 (.map []) :=
    ⟨by rw [← hs]; exact blk_new _ _, h1.alloc _⟩
  replace h2 := Aside0.mk h2
  replace h3 := Aside0.mk h3
  clear h1 hs
  go_enter Try.func10, Try.ntmps10
  go_wp2
  go_returns
  exact ⟨rfl, h3.out, h2.out⟩

set_option maxHeartbeats 8000000 in
set_option maxRecDepth 100000 in
theorem put_yes (bb mb n : Nat) (D : DataW Unit) (k u m : Int) (w : World) (hB : BK w bb mb n D) (hn : n ≤ 100000) (h1 : 0 ≤ k) (h2 : k ≤ 4095) (h3 : 0 ≤ u) (h4 : u ≤ m) :
    Calls Try.prog 11 #[.pointer (some ⟨bb, 0, none⟩), .int .i64 k, .int .i64 u, .int .i64 m] w fun e w' => e = .returned (.bool true) ∧ BK w' bb mb (n + 1) (D.put (.int .i64 k) (pairD u m)) ∧ Far (fun x => x = mb) w w' := by
  have hk : (Lit.int .i64 k).wf = true := WalkArith.wf_i64 (by omega)
  have hkey := keyOf_int_mk (P := Try.prog) (k := 3) Try.underlying3 hk
  have kb : w.cell? ⟨bb, 0, none⟩ = some (.map (some mb)) := (blk_cell hB.blk 0).trans rfl
  have d1 : decide (k < 0) = false := decide_eq_false (by omega)
  have d2 : decide (k > 4095) = false := decide_eq_false (by omega)
  have d3 : decide (u < 0) = false := decide_eq_false (by omega)
  have d4 : decide (u > m) = false := decide_eq_false (by omega)
  replace hB := Aside0.mk hB
  replace hn := Aside0.mk hn
  replace hkey := Aside0.mk hkey
  clear h1 h2 h3 h4 hk
  go_enter Try.func11, Try.ntmps11
  go_wp2_with (at_mapUpdate; refine wpList_mapUpdate_own _ rfl _ _ _ 47 rfl 3 51 law3 Try.underlying47 pairR mb n D rfl hB.out.own (by have := hn.out; unfold maxLen; omega) _ _ _ rfl rfl hkey.out (pairD u m) [] (pairR_mk u m) ?_; intro w1 hown1 hgrow1; have hF := Aside0.mk (far_grown hgrow1); replace hown1 := Aside0.mk hown1; clear hgrow1)
  go_returns
  exact ⟨rfl, ⟨hF.out.blk hB.out.blk hB.out.ne, hown1.out⟩, hF.out⟩

set_option maxHeartbeats 8000000 in
set_option maxRecDepth 100000 in
theorem put_no (bb : Nat) (k u m : Int) (w : World) (h : k < 0 ∨ k > 4095 ∨ u < 0 ∨ u > m) :
    Calls Try.prog 11 #[.pointer (some ⟨bb, 0, none⟩), .int .i64 k, .int .i64 u, .int .i64 m] w fun e w' => e = .returned (.bool false) ∧ w' = w := by
  obtain ⟨b1, d1⟩ : ∃ b, decide (k < 0) = b := ⟨_, rfl⟩
  obtain ⟨b2, d2⟩ : ∃ b, decide (k > 4095) = b := ⟨_, rfl⟩
  obtain ⟨b3, d3⟩ : ∃ b, decide (u < 0) = b := ⟨_, rfl⟩
  obtain ⟨b4, d4⟩ : ∃ b, decide (u > m) = b := ⟨_, rfl⟩
  have H := Aside0.mk h
  clear h
  cases b1 with
  | true =>
    go_enter Try.func11, Try.ntmps11
    go_wp2
    go_returns
    exact ⟨rfl, rfl⟩
  | false => cases b2 with
    | true =>
      go_enter Try.func11, Try.ntmps11
      go_wp2
      go_returns
      exact ⟨rfl, rfl⟩
    | false => cases b3 with
      | true =>
        go_enter Try.func11, Try.ntmps11
        go_wp2
        go_returns
        exact ⟨rfl, rfl⟩
      | false => cases b4 with
        | true =>
          go_enter Try.func11, Try.ntmps11
          go_wp2
          go_returns
          exact ⟨rfl, rfl⟩
        | false =>
          exfalso
          have := H.out
          have := of_decide_eq_false d1
          have := of_decide_eq_false d2
          have := of_decide_eq_false d3
          have := of_decide_eq_false d4
          omega
theorem put_nil (k u m : Int) (w : World) : Calls Try.prog 11 #[.pointer none, .int .i64 k, .int .i64 u, .int .i64 m] w fun e w' => e = .returned (.bool false) ∧ w' = w := by
  go_enter Try.func11, Try.ntmps11
  go_wp2
  go_returns
  exact ⟨rfl, rfl⟩
theorem drop_nil (k : Int) (w : World) : Calls Try.prog 17 #[.pointer none, .int .i64 k] w fun e w' => e = .returned (.bool false) ∧ w' = w := by
  go_enter Try.func17, Try.ntmps17
  go_wp2
  go_returns
  exact ⟨rfl, rfl⟩
theorem numbers_nil (v : Value) (A : Option Addr) (n c : Nat) (hv : v = .slice A n c) (w : World) : Calls Try.prog 25 #[.pointer none, v] w fun e w' => e = .returned (.slice none 0 0) ∧ Below w.heap.size w w' := by
  subst hv
  have hb := Aside0.mk (below_alloc (Below.refl _ w) (.cells #[.slice A n c] 40 (0, 0)))
  go_enter Try.func25, Try.ntmps25
  go_wp2
  go_returns
  exact ⟨rfl, hb.out⟩

set_option maxHeartbeats 8000000 in
set_option maxRecDepth 100000 in
theorem drop_calls (bb mb n : Nat) (D : DataW Unit) (l : List S30) (k : Int) (w : World) (hB : BK w bb mb n D) (hR : RelD D l) (hk : (Lit.int .i64 k).wf = true) :
    Calls Try.prog 17 #[.pointer (some ⟨bb, 0, none⟩), .int .i64 k] w fun e w' => e = .returned (.bool (Maps.has D (.int .i64 k))) ∧ BK w' bb mb n (D.del (.int .i64 k)) ∧ Far (fun x => x = mb) w w' := by
  have hkey := keyOf_int_mk (P := Try.prog) (k := 3) Try.underlying3 hk
  have kb : w.cell? ⟨bb, 0, none⟩ = some (.map (some mb)) := (blk_cell hB.blk 0).trans rfl
  have hlook := bk_look_ok hB hR k hk
  have hbl := blk_lt hB.blk
  obtain ⟨a, ha⟩ : ∃ a, a = (U l k).1 := ⟨_, rfl⟩
  obtain ⟨b, hb⟩ : ∃ b, b = (U l k).2 := ⟨_, rfl⟩
  rw [← ha, ← hb] at hlook
  clear ha hb
  have hB1 : BK (w.alloc (.cells #[.int .i64 a, .int .i64 b] 51 (0, 0))) bb mb n D := hB.below (below_alloc (Below.refl _ w) _)
  have kb1 : (w.alloc (.cells #[.int .i64 a, .int .i64 b] 51 (0, 0))).cell? ⟨bb, 0, none⟩ = some (.map (some mb)) := (blk_cell hB1.blk 0).trans rfl
  have hF0 : Far (fun x => x = mb) w (w.alloc (.cells #[.int .i64 a, .int .i64 b] 51 (0, 0))) := Far.alloc (Far.refl _ w) _
  replace hkey := Aside0.mk hkey
  replace hB1 := Aside0.mk hB1
  replace hF0 := Aside0.mk hF0
  replace kb1 := Aside0.mk kb1
  clear hB hR hk hbl
  generalize Maps.has D (.int .i64 k) = hv at hlook ⊢
  go_enter Try.func17, Try.ntmps17
  go_upto_region 4 with fail
  generalize w.alloc (.cells #[.int .i64 a, .int .i64 b] 51 (0, 0)) = w1 at hB1 hF0 kb1 ⊢
  replace kb1 := kb1.out
  clear hlook kb
  go_wp2_with (at_delete; refine wpList_delete_own _ rfl _ _ 47 3 rfl 51 law3 Try.underlying47 pairR mb n D rfl hB1.out.own _ _ rfl hkey.out ?_; intro w2 hown2 hturn2; have hF := Aside0.mk (far_grown hturn2.grown); replace hown2 := Aside0.mk hown2; clear hturn2)
  go_returns
  exact ⟨rfl, ⟨hF.out.blk hB1.out.blk hB1.out.ne, hown2.out⟩, hF0.out.then_ hF.out⟩
end Go.Proofs.Ytoljebdicjiogaa.Hand
