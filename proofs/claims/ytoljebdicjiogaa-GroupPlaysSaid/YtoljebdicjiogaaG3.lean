/- A book's numbers, walked. -/
import Derived.Test.YtoljebdicjiogaaG2
import Derived.Lib.SliceRun
namespace Go.Proofs.Ytoljebdicjiogaa.Hand
set_option linter.unusedVariables false
set_option linter.unusedSimpArgs false
open Go.RowKit Go.Maps Go.Proofs.Ytoljebdicjiogaa.R Go.Proofs.YtoljebdicjiogaaW.PrintWords Go.Proofs.YtoljebdicjiogaaW.PrintLast Go.Proofs.YtoljebdicjiogaaW.PrintMore

theorem w64s (x : Nat) (h : x < 9223372036854775807) : wrap64 ((x : Int) + 1) = ((x + 1 : Nat) : Int) := by unfold wrap64; omega
/-! Contains, plain -/
theorem index_l0 (xs : List Int) (v : Int) (hx : xs.length < 4611686018427387904) : ∀ (d k i : Nat), i + d = xs.length → d < k → ∃ r, slices_Index_int_int.l0 k xs v (xs.length : Int) (i : Int) = some r ∧ decide (r ≥ 0) = (xs.drop i).contains v
  | 0, k, i, h, hk => by
    obtain ⟨k, rfl⟩ : ∃ n, k = n + 1 := ⟨k - 1, by omega⟩
    refine ⟨-1, ?_, ?_⟩
    · simp only [slices_Index_int_int.l0]
      rw [if_neg (by omega)]
    · rw [List.drop_eq_nil_of_le (by omega)]
      rfl
  | d + 1, k, i, h, hk => by
    obtain ⟨k, rfl⟩ : ∃ n, k = n + 1 := ⟨k - 1, by omega⟩
    have hi : i < xs.length := by omega
    have e : rd xs (i : Int) = xs[i] := by unfold rd; simp [hi]
    simp only [slices_Index_int_int.l0]
    rw [if_pos (by omega), if_pos (by omega), if_pos (by omega), e, List.drop_eq_getElem_cons hi, List.contains_cons]
    by_cases hv : v = xs[i]
    · rw [if_pos hv]
      refine ⟨(i : Int), rfl, ?_⟩
      rw [decide_eq_true (by omega), show (v == xs[i]) = true from beq_iff_eq.mpr hv]
      rfl
    · rw [if_neg hv, w64s i (by omega), show (v == xs[i]) = false from beq_eq_false_iff_ne.mpr hv, Bool.false_or]
      exact index_l0 xs v hx d k (i + 1) (by omega) (by omega)
theorem contains_some (xs : List Int) (v : Int) (hx : xs.length < 4611686018427387904) : slices_Contains_int_int.f (xs.length + 1) xs v = some (xs.contains v) := by
  obtain ⟨r, h1, h2⟩ := index_l0 xs v hx xs.length (xs.length + 1) 0 (by omega) (by omega)
  unfold slices_Contains_int_int.f slices_Index_int_int.f
  rw [show ((0 : Nat) : Int) = 0 from rfl] at h1
  rw [h1]
  show some (decide (r ≥ 0)) = _
  rw [h2]
  rfl
/-! the closure -/
theorem closure_calls (cb : Nat) (A : Option Addr) (c : Nat) (but : List Int) (x : Int) (W : World) (hcell : W.cell? ⟨cb, 0, none⟩ = some (.slice A but.length c)) (hC : Kd.C (Kd.int .i64) W A but.length but) (hc : but.length ≤ c) (hl : but.length < 4611686018427387904) :
    FnGives Try.prog 30 #[.pointer (some ⟨cb, 0, none⟩)] #[.int .i64 x] (.bool (but.contains x)) W := by
  show Calls Try.prog 30 #[.int .i64 x, .pointer (some ⟨cb, 0, none⟩)] W _
  have hK := Aside0.mk (slices_Contains_int_int.calls (but.length + 1) A c but x (but.contains x) W hC hc (contains_some but x hl))
  clear hC hc hl
  generalize but.contains x = b at hK ⊢
  go_enter Try.func30, Try.ntmps30
  go_wp2_with (go_at_call 31; refine hK.out.mono ?_; rintro e w' ⟨rfl, ⟨q, rfl⟩⟩)
  go_returns
  exact ⟨rfl, q, rfl⟩
theorem C_far {w w' : World} {A : Option Addr} {n g : Nat} {l : List Int} (h : Kd.C (Kd.int .i64) w A n l) (hf : Far (fun x => x = g) w w') (hne : ∀ ad, A = some ad → 0 < n → ad.block ≠ g) : Kd.C (Kd.int .i64) w' A n l := by
  obtain ⟨h1, h2, h3⟩ := h
  refine ⟨h1, h2, fun hp => ?_⟩
  obtain ⟨ad, e1, e2⟩ := h3 hp
  refine ⟨ad, e1, fun j p hj => ?_⟩
  obtain ⟨cs, c1, c2, c3⟩ := e2 j p hj
  refine ⟨cs, c1, c2, fun k u hk => ?_⟩
  have h5 := c3 k u hk
  rw [← h5]
  exact World.cell?_of_block (hf.block _ (World.block_lt_of_cell? w _ h5) (by rw [add_block]; exact hne ad e1 hp))
theorem C_lt {w : World} {A : Option Addr} {n : Nat} {l : List Int} (h : Kd.C (Kd.int .i64) w A n l) : ∀ ad, A = some ad → 0 < n → ad.block < w.heap.size := by
  intro ad ha hn
  obtain ⟨ad', ha', hc⟩ := h.2.2 hn
  obtain rfl : ad = ad' := by rw [ha] at ha'; exact Option.some.inj ha'
  have hl : 0 < l.length := by have := h.1; omega
  obtain ⟨cs, h1, h2, h3⟩ := hc 0 l[0] (by simp [hl])
  have hcs : 0 < cs.length := by rw [h2]; exact Nat.zero_lt_one
  have hcell := h3 0 cs[0] (by simp [hcs])
  have hb : (ad.add (0 * (Kd.int .i64).sz + 0)).block = ad.block := add_block _ _
  rw [← hb]
  exact World.block_lt_of_cell? w _ hcell
theorem sortWorld_far (w : World) (blk off n : Nat) (dk : Array Int) (os : Array Obj) : Far (fun x => x = blk) w (sortWorld (Value.int .i64) w blk off n dk os) := by
  refine ⟨rfl, rfl, rfl, ?_, fun k hk hn => ?_⟩
  · unfold sortWorld
    rw [Sort.size_grow, Sort.size_putRow]
    exact Nat.le_add_right _ _
  · unfold sortWorld
    rw [Sort.heap_grow_old _ _ (by rw [Sort.size_putRow]; exact hk)]
    show (w.heap.modify blk _)[k]? = _
    rw [Array.getElem?_modify, if_neg (fun e => hn e.symm)]
/-- Of no number nothing goes. -/
theorem delete_none (f : Value) (w : World) : Calls Try.prog 29 #[.slice none 0 0, f] w fun e w' => e = .returned (.slice none 0 0) ∧ w' = w := by
  have h35 : ∀ W, Calls Try.prog 35 #[.slice none 0 0, f] W fun e w' => e = .returned (.int .i64 (-1)) ∧ w' = W := by
    intro W
    go_enter Try.func35, Try.ntmps35
    go_wp2
    go_loopg [8] 0 (fun kq v8 w' => v8 = .int .i64 0 ∧ w' = W)
    case atStart => exact ⟨rfl, rfl⟩
    case round =>
      obtain ⟨rfl, rfl⟩ := hrel
      go_wp2
      go_returns
      exact ⟨rfl, rfl⟩
  replace h35 := Aside0.mk h35
  go_enter Try.func29, Try.ntmps29
  go_wp2_with (go_at_call 35; refine (h35.out _).mono ?_; rintro e w1 ⟨rfl, h1⟩; replace h1 := h1.symm; subst h1)
  go_returns
  exact ⟨rfl, rfl⟩
/-- Some numbers go: the closure's. -/
theorem delete_calls (base cb : Nat) (A : Option Addr) (c : Nat) (but : List Int) (v : Value) (xs : List Int) (w : World) (hrow : w.ownsRow base 3 1 v xs.length (xs.map (Value.int .i64))) (hcb : cb < base) (hcell : w.cell? ⟨cb, 0, none⟩ = some (.slice A but.length c)) (hC : Kd.C (Kd.int .i64) w A but.length but) (hA : ∀ ad, A = some ad → 0 < but.length → ad.block < base) (hc : but.length ≤ c) (hl : but.length < 4611686018427387904) (hxl : xs.length ≤ 1000000) :
    Calls Try.prog 29 #[v, .func (.func 30) #[] #[.pointer (some ⟨cb, 0, none⟩)]] w fun e w' => ∃ A' c', e = .returned (.slice A' (xs.filter fun n => !but.contains n).length c') ∧ Kd.C (Kd.int .i64) w' A' (xs.filter fun n => !but.contains n).length (xs.filter fun n => !but.contains n) ∧ Below base w w' := by
  rcases hrow.2 with ⟨h0, h1⟩ | ⟨g, cap, cur, hv, hg, hb, hn, hcap, hcs, htake⟩
  · subst h0
    have hx : xs = [] := List.length_eq_zero_iff.1 h1
    subst hx
    refine (delete_none _ w).mono ?_
    rintro e w' ⟨rfl, rfl⟩
    exact ⟨none, 0, rfl, ⟨rfl, by simp, fun h => absurd h (Nat.lt_irrefl 0)⟩, Below.refl _ _⟩
  · subst hv
    have hH : Sort.Holds (Value.int .i64) w g 0 xs.toArray := holds_of_blockI hb (by rw [Nat.mul_one] at htake; exact htake)
    have hcbl : cb < w.heap.size := World.block_lt_of_cell? w _ hcell
    have hp : PredAt Try.prog 30 #[.pointer (some ⟨cb, 0, none⟩)] (Value.int .i64) (fun n => but.contains n) w := fun W x hB =>
      closure_calls cb A c but x W ((hB.cell (p := ⟨cb, 0, none⟩) hcbl).trans hcell) (Kd.C_below hC hB) hc hl
    have hpo : PredOver Try.prog 30 #[.pointer (some ⟨cb, 0, none⟩)] (Value.int .i64) (fun n => but.contains n) g 0 xs.toArray.size w := fun n os dk x _ => by
      have hF := sortWorld_far w g 0 n dk os
      refine closure_calls cb A c but x _ ?_ (C_far hC hF (fun ad ha h0 => by have := hA ad ha h0; omega)) hc hl
      rw [← hcell]
      exact World.cell?_of_block (hF.block cb hcbl (by omega))
    have hd := AnyE.slices_DeleteFunc Try.delA (Value.int .i64) (fun _ => rfl) (fun n => but.contains n) 30 #[.pointer (some ⟨cb, 0, none⟩)] (enters_of Try.func30 (by kernel_rfl) rfl) 0 Try.zeroValue3 g 0 cap xs.toArray w hp hpo hH (by simp; omega) (by simpa using hn)
    have e1 : xs.toArray.toList = xs := rfl
    rw [e1] at hd
    change Calls Try.prog 29 #[.slice (some ⟨g, 0, none⟩) xs.length cap, _] w _ at hd
    refine hd.mono ?_
    rintro e w' ⟨rfl, q, rfl⟩
    have hle : (xs.filter fun n => !but.contains n).length ≤ xs.length := List.length_filter_le _ _
    generalize (xs.filter fun n => !but.contains n) = ys at hle ⊢
    have hs : (ys ++ List.replicate (xs.toArray.size - ys.length) 0).toArray.size = xs.toArray.size := by simp; omega
    refine ⟨_, cap, rfl, ?_, ?_⟩
    · refine Kd.C_of_reads (d := (0 : Int)) (h1 := fun _ => rfl) ⟨rfl, by omega, fun _ => ⟨_, rfl, fun j hj => ?_⟩⟩
      have h6 := Sort.cell?_putRow (Value.int .i64) (Sort.ahead w q) g 0 xs.toArray _ hH hs j (by rw [hs]; simp; omega)
      rw [add_plain]
      rw [Nat.zero_add] at h6
      rw [h6]
      simp [List.getElem_append, hj, List.getElem?_append_left hj]
    · have h7 := grownBy_sortedI (w := w) (g := g) (n := q) (os := #[]) (ys ++ List.replicate (xs.toArray.size - ys.length) 0).toArray
      rw [Sort.grow_empty] at h7
      exact ⟨h7.os, h7.tape, h7.output, h7.size, fun k hk => (by
        by_cases hk2 : k < w.heap.size
        · exact h7.block k hk2 (fun e => by have := Option.some.inj e; omega)
        · have h8 := blk_lt hb
          omega)⟩

set_option maxHeartbeats 8000000 in
set_option maxRecDepth 100000 in
theorem numbers_calls (bb mb n : Nat) (D : DataW Unit) (l : List S30) (A : Option Addr) (c : Nat) (but : List Int) (w : World) (hB : BK w bb mb n D) (hR : RelD D l) (hn : n ≤ 100000) (hC : Kd.C (Kd.int .i64) w A but.length but) (hc : but.length ≤ c) (hl : but.length < 4611686018427387904) :
    Calls Try.prog 25 #[.pointer (some ⟨bb, 0, none⟩), .slice A but.length c] w fun e w' => ∃ A' c', e = .returned (.slice A' (numL l but).length c') ∧ Kd.C (Kd.int .i64) w' A' (numL l but).length (numL l but) ∧ Below w.heap.size w w' := by
  have hb1 : (w.alloc (.cells #[.slice A but.length c] 40 (0, 0))).heap[w.heap.size]? = some (.cells #[.slice A but.length c] 40 (0, 0)) := blk_new w _
  have hB1 : BK (w.alloc (.cells #[.slice A but.length c] 40 (0, 0))) bb mb n D := hB.below (below_alloc (Below.refl _ w) _)
  have hBb : Below w.heap.size w (w.alloc (.cells #[.slice A but.length c] 40 (0, 0))) := below_alloc (Below.refl _ w) _
  have hC1 := Kd.C_below hC hBb
  have hA1 := C_lt hC
  have kb := (blk_cell hB1.blk 0)
  obtain ⟨B0, hB0⟩ : ∃ B0, B0 = w.heap.size := ⟨_, rfl⟩
  replace kb : (w.alloc (.cells #[.slice A but.length c] 40 (0, 0))).cell? ⟨bb, 0, none⟩ = some (.map (some mb)) := kb
  have hsz : (w.alloc (.cells #[.slice A but.length c] 40 (0, 0))).heap.size = B0 + 1 := by rw [World.size_alloc, hB0]
  rw [← hB0] at hb1 hBb hA1 ⊢
  replace hb1 := Aside0.mk hb1
  replace hB1 := Aside0.mk hB1
  replace hBb := Aside0.mk hBb
  replace hC1 := Aside0.mk hC1
  replace hA1 := Aside0.mk hA1
  replace hR := Aside0.mk hR
  replace hn := Aside0.mk hn
  replace hl := Aside0.mk hl
  replace hc := Aside0.mk hc
  replace hsz := Aside0.mk hsz
  clear hB hC
  go_enter Try.func25, Try.ntmps25
  go_upto_region 1 with fail
  rw [← hB0]
  generalize w.alloc (.cells #[.slice A but.length c] 40 (0, 0)) = w1 at hb1 hB1 hBb hC1 kb hsz ⊢
  have hS := Aside0.mk (sorted_calls mb n D w1 hB1.out.own (by have := hB1.out.own.size_le; have := hn.out; omega))
  go_upto_region 4 with (first
    | (go_at_call 28; refine (keys_calls _ _).mono ?_; rintro e w2 ⟨rfl, rfl⟩)
    | (go_at_call 27; refine hS.out.mono ?_; rintro e w3 ⟨v, ss, rfl, hss, hrow, hnil, hb3⟩; replace hss := Aside0.mk hss; replace hrow := Aside0.mk hrow; replace hb3 := Aside0.mk hb3; clear hnil))
  have hB3 : Below w1.heap.size w1 w3 := below_step (below_alloc (Below.refl _ w1) _) hb3.out
  have hsz2 : (w1.alloc (.cells #[.map (some mb)] 47 (0, 0))).heap.size = w1.heap.size + 1 := World.size_alloc _ _
  have hlen : (sortI ss).length = ss.length := List.length_mergeSort _
  have hkeys := hR.out.keys hB1.out.own
  have hsort : sortI ss = sortI (l.map (·.f0)) := mergeSort_of_perm_i (hss.out.trans hkeys.symm)
  have hll : (l.map (·.f0)).length ≤ 1000000 := by
    have h1 := hkeys.length_eq
    have h2 : (intKeys D).length = Maps.size D := by
      obtain ⟨es, clock, _, _, _, rfl⟩ := hB1.out.own
      show (List.map _ _).length = _
      rw [List.length_map]
      rfl
    have h3 := hB1.out.own.size_le
    have h4 := hn.out
    omega
  have hrow' := hrow.out
  rw [← hlen] at hrow'
  have hD := delete_calls (w1.heap.size + 1) B0 A c but v (sortI ss) w3 (by rw [← hsz2]; exact hrow') (by have := hsz.out; omega) ((blk_cell ((hB3.block _ (blk_lt hb1.out)).trans hb1.out) 0).trans rfl) (Kd.C_below hC1.out hB3) (fun ad ha h0 => by have := hA1.out ad ha h0; have := hsz.out; omega) hc.out hl.out (by rw [hsort]; unfold sortI; rw [List.length_mergeSort]; exact hll)
  have hnum : ((sortI ss).filter fun n => !but.contains n) = numL l but := by rw [hsort]; rfl
  rw [hnum, hB0] at hD
  replace hD := Aside0.mk hD
  replace hB3 := Aside0.mk hB3
  clear hsz2 hlen hkeys hsort hll hrow' hnum
  go_wp2_with (go_at_call 29; refine hD.out.mono ?_; rintro e w4 ⟨A', c', rfl, hC4, hb4⟩; replace hC4 := Aside0.mk hC4; replace hb4 := Aside0.mk hb4)
  go_returns
  refine ⟨A', c', rfl, hC4.out, ?_⟩
  have hsB := hsz.out
  have hs1 := hB3.out.size
  exact (hBb.out.trans (hB3.out.mono (by omega))).trans (hb4.out.mono (by omega))
end Go.Proofs.Ytoljebdicjiogaa.Hand
