/- A model's numbers, rising: walked over the library's Sort. -/
import Derived.Test.YtgcgnpinhlmmjaaA9
import Derived.Test.YtgcgnpinhlmmjaaShelf
import Derived.Maps.RangeWalk
import Derived.Lib.SlKeysI
import Derived.Sort.OwnSortedInts
namespace Go.Proofs.Ytgcgnpinhlmmjaa.Hand
set_option linter.unusedVariables false
set_option linter.unusedSimpArgs false
open Go.RowKit Go.Maps Go.Proofs.Ytgcgnpinhlmmjaa.R Go.Proofs.Ytgcgnpinhlmmjaa.Va Go.Proofs.YtgcgnpinhlmmjaaW.PrintWords Go.Proofs.YtgcgnpinhlmmjaaW.PrintLast Go.Proofs.YtgcgnpinhlmmjaaW.PrintMore

def sortI (l : List Int) : List Int := l.mergeSort fun x y => decide (x ≤ y)
theorem sortI_length (l : List Int) : (sortI l).length = l.length := List.length_mergeSort _
theorem sort_row {W : World} {base c : Nat} {A : Option Addr} {xs : List Int} (hR : Kd.R (Kd.int .i64) 3 W base (fun _ => True) (.slice A xs.length c) xs) (hl : xs.length ≤ 1000000) :
    Calls Try.prog 49 #[.slice A xs.length c] W fun e w' => e = .returned (.tuple #[]) ∧ Kd.R (Kd.int .i64) 3 w' base (fun _ => True) (.slice A xs.length c) (sortI xs) ∧ W.grownBy w' (Value.slice A xs.length c).ownBlock := by
  have ho : W.ownsRow base 3 1 (.slice A xs.length c) xs.length (Go.Proofs.YtgcgnpinhlmmjaaW.PrintWords.encs (Value.int .i64) xs) := Kd.own_of_R hR
  rcases ho.2 with ⟨h0, h1⟩ | ⟨g, cap, cur, hv, hg, hb, hn, hcap, hcs, htake⟩
  · have hx : xs = [] := List.length_eq_zero_iff.1 h1
    subst hx
    refine (AnyM.slices_Sort_int_none Try.sortA A c W).mono ?_
    rintro e w' ⟨rfl, rfl⟩
    refine ⟨rfl, ?_, grown_of_below (Below.refl _ _) _⟩
    have : sortI [] = [] := List.mergeSort_nil
    rw [this]
    exact hR
  · injection hv with h1 h2 h3
    subst h1
    subst h3
    have htk : cur.toList.take xs.length = xs.map (Value.int .i64) := by
      rw [Nat.mul_one] at htake
      exact htake
    refine (AnyM.slices_Sort_int Try.sortA g 0 c xs W (holds_of_blockI hb htk) (blk_lt hb) (by omega)).mono ?_
    rintro e w' ⟨rfl, n, os, rfl⟩
    refine ⟨rfl, ?_, grownBy_sortedI _⟩
    have h5 := ownsRow_sortedI (n := n) (os := os) (base := base) (ts := sortI xs) (sortI_length xs) hg hb hn hcap hcs
    refine Kd.R_of_own ?_ (fun _ _ => trivial)
    rw [sortI_length]
    exact h5
theorem ptrR_some {v : Value} {y : DataW Unit × List MemPlace} (h : ptrR v = some y) : ∃ c, v = ptrV c := by
  unfold ptrR at h
  split at h
  · exact ⟨none, rfl⟩
  · rename_i b; exact ⟨some b, rfl⟩
  · cases h
theorem info3 : (Try.prog.info? 3).map (fun i => (i.zero, i.size, i.bytes)) = some (some (.int .i64 0), 1, 8) := by kernel_rfl
theorem MD.keys {w : World} {base bb mb cnt : Nat} {D : DataW Unit} {L : List Pg} {B : Int → Nat × Nat} (h : MD w base bb mb cnt D L B) : (L.map (·.n)).Perm (intKeys D) := by
  have hnd : (L.map (·.n)).Nodup := (srt_ns.1 h.srt).imp (fun hlt e => by omega)
  have hc : CollectedI D (fun _ => false) (L.map (·.n)) := ⟨hnd, fun x => by
    rw [h.has x, hasP_iff, List.mem_map]
    constructor
    · rintro ⟨y, hy, e⟩
      exact ⟨⟨y, hy, e⟩, rfl⟩
    · rintro ⟨⟨y, hy, e⟩, _⟩
      exact ⟨y, hy, e⟩⟩
  exact hc.perm h.own law3 Try.underlying3 (fun _ => rfl)
theorem MD.sorted {w : World} {base bb mb cnt : Nat} {D : DataW Unit} {L : List Pg} {B : Int → Nat × Nat} (h : MD w base bb mb cnt D L B) {xs : List Int} (hx : xs.Perm (intKeys D)) : sortI xs = L.map (·.n) := by
  have h1 : sortI xs = sortI (L.map (·.n)) := mergeSort_of_perm_i (hx.trans h.keys.symm)
  rw [h1]
  exact List.mergeSort_of_pairwise ((srt_ns.1 h.srt).imp (fun hlt => decide_eq_true (Int.le_of_lt hlt)))
set_option maxHeartbeats 8000000 in
set_option maxRecDepth 100000 in
theorem numbers_calls (base bb mb cnt : Nat) (D : DataW Unit) (L : List Pg) (B : Int → Nat × Nat) (w : World) (h : MD w base bb mb cnt D L B) (hcnt : cnt ≤ 100000) :
    Calls Try.prog 31 #[.pointer (some ⟨bb, 0, none⟩)] w fun e w' => ∃ A c, e = .returned (.slice A (L.map (·.n)).length c) ∧ Kd.R (Kd.int .i64) 3 w' w.heap.size (fun _ => True) (.slice A (L.map (·.n)).length c) (L.map (·.n)) ∧ Below w.heap.size w w' := by
  have kb : w.cell? ⟨bb, 0, none⟩ = some (.map (some mb)) := (blk_cell h.blk 0).trans rfl
  have hso := Aside0.mk (fun xs hx => h.sorted (xs := xs) hx)
  have hmlt := Aside0.mk h.own.lt
  have hsz := Aside0.mk (Nat.le_trans h.own.size_le hcnt)
  replace h := Aside0.mk h
  go_enter Try.func31, Try.ntmps31
  go_wp2_with (at_range; refine wpList_range_own _ rfl _ 66 rfl 3 72 law3 Try.underlying66 ptrR mb cnt D rfl h.out.own ?_; intro w0 hrg0 hg0 hs0; replace hrg0 := Aside0.mk hrg0; replace hg0 := Aside0.mk hg0; replace hs0 := Aside0.mk hs0)
  go_frame
  have hst : ∃ (left : Lit → Bool) (xs : List Int) (A : Option Addr) (c : Nat), Value.slice none 0 0 = .slice A xs.length c ∧ Aside0 (w0.ranges Try.prog 3 ptrR mb w.heap.size cnt D left (Maps.size D)) ∧ Aside0 (CollectedI D left xs) ∧ Aside0 (Kd.R (Kd.int .i64) 3 w0 w.heap.size (fun k => w.heap.size < k) (.slice A xs.length c) xs) ∧ Aside0 (Below w.heap.size w w0) ∧ Aside0 (xs.length + Maps.size D ≤ 100000 ∧ w.heap.size < w0.heap.size) :=
    ⟨_, [], none, 0, rfl, ⟨hrg0.out⟩, ⟨CollectedI.start D⟩, ⟨Kd.R_nil _ _ _ _ _⟩, ⟨⟨hg0.out.os, hg0.out.tape, hg0.out.output, hg0.out.size, fun k hk => hg0.out.block k hk (by simp)⟩⟩, ⟨by have := hsz.out; simpa using this, by have := hs0.out; omega⟩⟩
  replace hst := Aside0.mk hst
  go_loopg [3] (Maps.size D) (fun kq v3 w' => ∃ (left : Lit → Bool) (xs : List Int) (A : Option Addr) (c : Nat), v3 = .slice A xs.length c ∧ Aside0 (w'.ranges Try.prog 3 ptrR mb w.heap.size cnt D left kq) ∧ Aside0 (CollectedI D left xs) ∧ Aside0 (Kd.R (Kd.int .i64) 3 w' w.heap.size (fun k => w.heap.size < k) (.slice A xs.length c) xs) ∧ Aside0 (Below w.heap.size w w') ∧ Aside0 (xs.length + kq ≤ 100000 ∧ w.heap.size < w'.heap.size))
  case atStart => exact hst.out
  case round =>
    clear hst hrg0 hg0 hs0
    obtain ⟨left, xs, A, c, rfl, HR, HC, HO, HB, HN⟩ := hrel
    go_wp2_with (at_next; refine wpList_next_ranges _ rfl _ rfl 3 law3 ptrR (Value.int .i64) ptrV (fun key kl hk => by obtain ⟨x, rfl, _⟩ := Maps.keyOf_int_inv Try.underlying3 hk; exact ⟨x, rfl⟩) (fun v y hv => ptrR_some hv) mb w.heap.size cnt D left _ rfl HR.out ?_ ?_)
    · intro hk0 hl0
      subst hk0
      have hp := Aside0.mk (HC.out.perm h.out.own law3 Try.underlying3 hl0)
      have hs := Aside0.mk (hso.out _ hp.out)
      have hle := HN.out.1
      have hS := Aside0.mk (sort_row (Kd.R_mono HO.out (fun _ _ => trivial)) (by omega))
      have hlen := Aside0.mk (sortI_length xs)
      clear hle
      go_wp2_with (go_at_call 49; refine hS.out.mono ?_; rintro e w2 ⟨rfl, hR2, hg2⟩; have hb2 := pw_below_grown HB.out _ HB.out.size hg2 (fun k e => Kd.R_base HO.out k e); replace hR2 := Aside0.mk hR2; replace hb2 := Aside0.mk hb2; clear hg2)
      go_returns
      have e1 : xs.length = (L.map (·.n)).length := by rw [← hs.out]; exact hlen.out.symm
      have hR3 := hR2.out
      rw [hs.out, e1] at hR3
      rw [e1]
      exact ⟨_, _, rfl, hR3, hb2.out⟩
    · intro x c2 kl y yp w1 cnt1 hkey hlx hpy hat hrg1 hlt hg1 hs1 hen
      obtain ⟨x2, ex, rfl, hwx⟩ := Maps.keyOf_int_inv Try.underlying3 hkey
      cases ex
      have hC2 := Aside0.mk (HC.out.step hlx (fun zd => hat zd))
      have hO2 := Kd.R_grown HO.out hg1 (fun k hk e => by injection e with e; omega)
      have hB2 := pw_below_grown HB.out _ HB.out.size hg1 (fun k e => by injection e with e; omega)
      have hn := HN.out
      have hx1 : w.heap.size < w1.heap.size := by omega
      have hfr : ∀ k, w1.heap.size ≤ k → w.heap.size < k := fun k hk => by omega
      have hlen : (xs.length + 1) * 8 ≤ 140737488355328 := by omega
      have hM := Aside0.mk hmlt.out
      replace hO2 := Aside0.mk hO2
      replace hB2 := Aside0.mk hB2
      replace hfr := Aside0.mk hfr
      replace hlen := Aside0.mk hlen
      replace hrg1 := Aside0.mk hrg1
      replace hx1 := Aside0.mk hx1
      have hN2 := Aside0.mk (show xs.length + 1 + cnt1 ≤ 100000 by omega)
      replace hlt := Aside0.mk hlt
      clear hat hpy hkey hlx hs1 hn hg1 hwx
      go_wp2_with (at_builtin; refine Kd.R_append (Kd.int .i64) (W := w1) (w0 := w) w.heap.size rfl _ _ 70 3 (.int .i64 0) 8 rfl Try.underlying70 info3 rfl (by decide) (by decide) (.slice A xs.length c) xs x [.int .i64 x] (fun k => w.heap.size < k) (fun _ => False) rfl rfl rfl (fun k hk => hk.elim) hfr.out hO2.out hB2.out (Nat.le_of_lt hx1.out) hlen.out ?_; intro v4 w4 hR5 hb5 hg5 hat5; replace hR5 := Aside0.mk hR5; replace hg5 := Aside0.mk hg5; replace hb5 := Aside0.mk hb5; clear hat5)
      obtain ⟨A5, c5, e5⟩ := Kd.R_slice hR5.out
      subst e5
      have hrk := Aside0.mk (hrg1.out.kept hg5.out (fun e => by have := Kd.R_base hO2.out _ e.symm; have := hM.out; omega) (fun e => by have := hO2.out.1 _ e.symm; omega))
      have hsz5 := Aside0.mk (show w.heap.size < w4.heap.size by have := hg5.out.size; have := hx1.out; omega)
      go_roundg cnt1
      case measure => exact hlt.out
      case rel => exact ⟨_, xs ++ [x], A5, c5, rfl, hrk, hC2, hR5, hb5, ⟨by rw [List.length_append]; exact hN2.out, hsz5.out⟩⟩
end Go.Proofs.Ytgcgnpinhlmmjaa.Hand
