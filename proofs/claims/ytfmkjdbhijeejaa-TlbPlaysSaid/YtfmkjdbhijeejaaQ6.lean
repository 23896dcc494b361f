/- tlb's Frames and Clear, walked by hand. -/
import Derived.Test.YtfmkjdbhijeejaaQ3
import Derived.Test.YtfmkjdbhijeejaaShelf
import Derived.Test.YtfmkjdbhijeejaaP11
import Derived.Sort.OwnSortedInts
import Derived.Deep.MidRow
namespace Go.Proofs.Ytfmkjdbhijeejaa.Hand
set_option linter.unusedVariables false
set_option linter.unusedSimpArgs false
open Go.RowKit Go.Proofs.Ytfmkjdbhijeejaa.R Go.Proofs.YtfmkjdbhijeejaaW.PrintWords Go.Proofs.YtfmkjdbhijeejaaW.PrintMore

theorem info51 : (Try.prog.info? 51).map (·.size) = some 48 := by kernel_rfl
/-- The places' cells. -/
def seg48 (L : List Int) : List Value := (L.take 48).map (Value.int .i64)
theorem seg48_len {L : List Int} (hL : L.length = 50) : (seg48 L).length = 48 := by unfold seg48; rw [List.length_map, List.length_take, hL]; rfl
theorem range48 {w : World} {g : Nat} {L : List Int} (hb : w.heap[g]? = some (.cells (ints L) 53 (0, 0))) (hL : L.length = 50) : w.rangeAt g 0 (seg48 L) := by
  intro j v hv
  have hj : j < 48 := by
    have := (List.getElem?_eq_some_iff.1 hv).1
    rw [seg48_len hL] at this
    exact this
  unfold seg48 at hv
  rw [List.getElem?_map, List.getElem?_take, if_pos hj] at hv
  obtain ⟨q, hq, rfl⟩ := Option.map_eq_some_iff.1 hv
  rw [Nat.zero_add]
  exact ints_cell hb hq
section
variable {ops : Array Oper} {rest : List Oper} {o : Oper} {a : Act} {w : World} {Q : Exit → Act → World → Prop}
theorem gate_ld51 {x : Operand} (h : o.op = .load 51 x) (k : wpList Try.prog ops Q (o :: rest) a w) : wpList Try.prog ops Q (o :: rest) a w := k
theorem wl_ld51 (hgd : o.guard = none) (x : Operand) (ho : o.op = .load 51 x) {g : Nat} {L : List Int} (hx : a.eval x = .pointer (some ⟨g, 0, none⟩)) (h : w.heap[g]? = some (.cells (ints L) 53 (0, 0))) (hL : L.length = 50)
    (k : wpList Try.prog ops Q rest (a.put o.dst (.agg (seg48 L).toArray)) w) : wpList Try.prog ops Q (o :: rest) a w :=
  wpList_load_mid hgd 51 x ho g 0 hx (seg48 L) _ (range48 h hL) Try.underlying51 rfl (by rw [info51, seg48_len hL]) k
end


/-! the library's sort and compaction, over a row of the call's own -/
theorem sort_row {W : World} {base c : Nat} {A : Option Addr} {xs : List Int} (hR : Kd.R (Kd.int .i64) 3 W base (fun _ => True) (.slice A xs.length c) xs) (hl : xs.length ≤ 1000000) :
    Calls Try.prog 25 #[.slice A xs.length c] W fun e w' => e = .returned (.tuple #[]) ∧ Kd.R (Kd.int .i64) 3 w' base (fun _ => True) (.slice A xs.length c) (sortI xs) ∧ W.grownBy w' (Value.slice A xs.length c).ownBlock := by
  have ho : W.ownsRow base 3 1 (.slice A xs.length c) xs.length (Go.Proofs.YtfmkjdbhijeejaaW.PrintWords.encs (Value.int .i64) xs) := Kd.own_of_R hR
  rcases ho.2 with ⟨h0, h1⟩ | ⟨g, cap, cur, hv, hg, hb, hn, hcap, hcs, htake⟩
  · have hx : xs = [] := List.length_eq_zero_iff.1 h1
    subst hx
    refine (Try.slices_Sort_int_none A c W).mono ?_
    rintro e w' ⟨rfl, rfl⟩
    refine ⟨rfl, ?_, grown_of_below (Below.refl _ _) _⟩
    have : sortI [] = [] := List.mergeSort_nil
    rw [this]
    exact hR
  · injection hv with h1 h2 h3
    subst h1
    subst h3
    have htk : cur.toList.take xs.length = xs.map (Value.int .i64) := by
      rw [Nat.mul_one] at htake
      exact htake
    refine (Try.slices_Sort_int g 0 c xs W (holds_of_blockI hb htk) (blk_lt hb) (by omega)).mono ?_
    rintro e w' ⟨rfl, n, os, rfl⟩
    refine ⟨rfl, ?_, grownBy_sortedI _⟩
    have h5 := ownsRow_sortedI (n := n) (os := os) (base := base) (ts := sortI xs) (sortI_length xs) hg hb hn hcap hcs
    refine Kd.R_of_own ?_ (fun _ _ => trivial)
    rw [sortI_length]
    exact h5
theorem compact_length (xs : List Int) : (Lib.compact xs).length ≤ xs.length := by
  unfold Lib.compact Lib.compactUpTo
  rw [List.length_map]
  exact Nat.le_trans (List.length_filter_le _ _) (by rw [List.length_range]; exact Nat.le_refl _)
theorem compact_row {W : World} {base c : Nat} {A : Option Addr} {xs : List Int} (hR : Kd.R (Kd.int .i64) 3 W base (fun _ => True) (.slice A xs.length c) xs) (hl : xs.length ≤ 1000000) :
    Calls Try.prog 26 #[.slice A xs.length c] W fun e w' => e = .returned (.slice A (Lib.compact xs).length c) ∧ Kd.C (Kd.int .i64) w' A (Lib.compact xs).length (Lib.compact xs) ∧ W.grownBy w' (Value.slice A xs.length c).ownBlock := by
  have ho : W.ownsRow base 3 1 (.slice A xs.length c) xs.length (Go.Proofs.YtfmkjdbhijeejaaW.PrintWords.encs (Value.int .i64) xs) := Kd.own_of_R hR
  rcases ho.2 with ⟨h0, h1⟩ | ⟨g, cap, cur, hv, hg, hb, hn, hcap, hcs, htake⟩
  · have hx : xs = [] := List.length_eq_zero_iff.1 h1
    subst hx
    refine (Try.slices_Compact_int_empty A c W).mono ?_
    rintro e w' ⟨rfl, rfl⟩
    have : Lib.compact ([] : List Int) = [] := rfl
    rw [this]
    exact ⟨rfl, (Kd.R_reads' hR).2.2, grown_of_below (Below.refl _ _) _⟩
  · injection hv with h1 h2 h3
    subst h1
    subst h3
    have htk : cur.toList.take xs.length = xs.map (Value.int .i64) := by
      rw [Nat.mul_one] at htake
      exact htake
    have hH : Sort.Holds (Value.int .i64) W g 0 xs.toArray := holds_of_blockI hb htk
    refine (Try.slices_Compact_int g 0 c xs W hH (by omega) hn).mono ?_
    rintro e w' ⟨rfl, q, rfl⟩
    have hle := compact_length xs
    refine ⟨rfl, ?_, ?_⟩
    · refine Kd.C_of_reads (d := (0 : Int)) (h1 := fun _ => rfl) ⟨rfl, by omega, fun _ => ⟨_, rfl, fun j hj => ?_⟩⟩
      have hs : (Lib.compact xs ++ List.replicate (xs.length - (Lib.compact xs).length) 0).toArray.size = xs.toArray.size := by simp; omega
      have h6 := Sort.cell?_putRow (Value.int .i64) (Sort.ahead W q) g 0 xs.toArray _ hH hs j (by rw [hs]; simp; omega)
      rw [add_plain]
      rw [Nat.zero_add] at h6
      rw [h6]
      simp [List.getElem_append, hj, List.getElem?_append_left hj]
    · have := grownBy_sortedI (w := W) (g := g) (n := q) (os := #[]) (Lib.compact xs ++ List.replicate (xs.length - (Lib.compact xs).length) 0).toArray
      rw [Sort.grow_empty] at this
      exact this

/-! Frames -/
theorem run_index51 (w : World) (L : List Int) (hL : L.length = 50) (i : Nat) (hi : i < 16) :
    (Instr.index 51 (.agg (seg48 L).toArray) (.int .i64 (i : Int))).run Try.prog w = .ok (.agg #[.int .i64 (L.getD (i * 3) 0), .int .i64 (L.getD (i * 3 + 1) 0), .int .i64 (L.getD (i * 3 + 2) 0)]) w := by
  have hl := seg48_len hL
  have hg : ∀ k, k < 48 → (seg48 L)[k]? = some (.int .i64 (L[k]?.getD 0)) := by
    intro k hk
    unfold seg48
    rw [List.getElem?_map, List.getElem?_take, if_pos hk, List.getElem?_eq_getElem (by omega)]
    rfl
  have e : List.take 3 (List.drop (i * 3) (seg48 L)) = [.int .i64 (L[i * 3]?.getD 0), .int .i64 (L[i * 3 + 1]?.getD 0), .int .i64 (L[i * 3 + 2]?.getD 0)] := by
    apply List.ext_getElem?
    intro j
    rw [List.getElem?_take, List.getElem?_drop]
    by_cases hj : j < 3
    · rw [if_pos hj, hg _ (by omega)]
      match j, hj with
      | 0, _ => rfl
      | 1, _ => rfl
      | 2, _ => rfl
    · rw [if_neg hj, List.getElem?_eq_none (by simp; omega)]
  simp [Instr.index, Try.underlying51, run_underlying, asIntOf, part, Try.isAgg50, Try.sizeOf50, go_sem]
  rw [if_pos hi, e]
/-- The frames of the first places that have a page. -/
def plF (L : List Int) : Nat → List Int
  | 0 => []
  | k + 1 => if 0 < L.getD (k * 3) 0 then plF L k ++ [L.getD (k * 3 + 1) 0] else plF L k
theorem plF_length (L : List Int) : ∀ k, (plF L k).length ≤ k
  | 0 => Nat.le_refl _
  | k + 1 => by
    have := plF_length L k
    unfold plF
    split
    · rw [List.length_append, List.length_singleton]; omega
    · omega
theorem mem_plF (L : List Int) (f : Int) : ∀ n, f ∈ plF L n ↔ ∃ k, k < n ∧ 0 < L.getD (k * 3) 0 ∧ L.getD (k * 3 + 1) 0 = f
  | 0 => ⟨fun h => (by cases h), fun ⟨k, h, _⟩ => (by omega)⟩
  | n + 1 => by
    have ih := mem_plF L f n
    unfold plF
    by_cases h : 0 < L.getD (n * 3) 0
    · rw [if_pos h, List.mem_append, ih, List.mem_singleton]
      constructor
      · rintro (⟨k, h1, h2, h3⟩ | h1)
        · exact ⟨k, by omega, h2, h3⟩
        · exact ⟨n, by omega, h, h1.symm⟩
      · rintro ⟨k, h1, h2, h3⟩
        by_cases e : k = n
        · subst e; exact .inr h3.symm
        · exact .inl ⟨k, by omega, h2, h3⟩
    · rw [if_neg h, ih]
      constructor
      · rintro ⟨k, h1, h2, h3⟩
        exact ⟨k, by omega, h2, h3⟩
      · rintro ⟨k, h1, h2, h3⟩
        by_cases e : k = n
        · subst e; exact absurd h2 h
        · exact ⟨k, by omega, h2, h3⟩
/-- What Frames tells, is the document's. -/
theorem RelT.frames {L : List Int} {l : List NN} (h : RelT L l) : Lib.compact (sortI (plF L 16)) = framesR l :=
  rising_ext (compact_rising (sortI_sorted _)) (framesR_rising l) (fun x => by rw [compact_mem, sortI_mem, mem_plF, mem_framesR h.one, h.frame])

set_option maxHeartbeats 8000000 in
set_option maxRecDepth 100000 in
theorem frames_calls (g : Nat) (L : List Int) (w : World) (hb : w.heap[g]? = some (.cells (ints L) 53 (0, 0))) (hL : L.length = 50) :
    Calls Try.prog 15 #[.pointer (some ⟨g, 0, none⟩)] w fun e w' => ∃ A c, e = .returned (.slice A (Lib.compact (sortI (plF L 16))).length c) ∧ Kd.C (Kd.int .i64) w' A (Lib.compact (sortI (plF L 16))).length (Lib.compact (sortI (plF L 16))) ∧ (Lib.compact (sortI (plF L 16))).length ≤ c ∧ Below w.heap.size w w' := by
  have hidx := fun w' i hi => run_index51 w' L hL i hi
  replace hb := Aside0.mk hb
  replace hL := Aside0.mk hL
  replace hidx := Aside0.mk hidx
  have hd1 := Kd.R_nil (Kd.int .i64) 3 w w.heap.size (fun _ => True)
  go_enter Try.func15, Try.ntmps15
  go_wp2_with ((with_reducible refine gate_ld51 rfl ?_); refine wl_ld51 rfl _ rfl rfl hb.out hL.out ?_)
  generalize hseg : (seg48 L).toArray = seg at hidx ⊢
  clear hseg
  go_loopg [3, 12] 16 (fun kq v3 v12 w' => ∃ (i : Nat), v12 = .int .i64 (i : Int) ∧ Aside0 (i + kq = 16) ∧ Kd.R (Kd.int .i64) 3 w' w.heap.size (fun _ => True) v3 (plF L i) ∧ Aside0 (Below w.heap.size w w'))
  case atStart => exact ⟨0, rfl, ⟨by omega⟩, hd1, ⟨Below.refl _ w⟩⟩
  case round =>
    clear hd1
    obtain ⟨i, rfl, HK, HR, HB⟩ := hrel
    obtain ⟨A3, c3, e3⟩ := Kd.R_slice HR
    subst e3
    replace HR := Aside0.mk HR
    cases gk with
    | zero =>
      obtain rfl : i = 16 := by have := HK.out; omega
      have hpl := plF_length L 16
      obtain ⟨xs, exs⟩ : ∃ xs, Aside0 (plF L 16 = xs) := ⟨_, ⟨rfl⟩⟩
      rw [exs.out] at HR hpl ⊢
      have hS := sort_row HR.out (by omega)
      have hle : Aside0 ((Lib.compact (sortI xs)).length ≤ c3) := ⟨Nat.le_trans (compact_length _) (by rw [sortI_length]; exact (Kd.R_reads' HR.out).2.1)⟩
      replace hS := Aside0.mk hS
      replace hpl := Aside0.mk hpl
      clear hidx
      go_wp2_with (first
        | (go_at_call 25; refine hS.out.mono ?_; rintro e w2 ⟨rfl, hR2, hg2⟩; have hb2 := pw_below_grown HB.out _ HB.out.size hg2 (fun k e => Kd.R_base HR.out k e); have hR2' := Aside0.mk hR2; have hg2' := Aside0.mk hg2; replace hb2 := Aside0.mk hb2; clear hR2 hg2)
        | (go_at_call 26; have hn := sortI_length xs; rw [← hn] at hR2'; rw [← hn]; refine (compact_row hR2'.out (by have := hpl.out; omega)).mono ?_; rintro e w3 ⟨rfl, hC3, hg3⟩; have hb3 := pw_below_grown hb2.out _ hb2.out.size hg3 (fun k e => Kd.R_base hR2'.out k e); replace hC3 := Aside0.mk hC3; replace hb3 := Aside0.mk hb3; clear hg3))
      go_returns
      rw [exs.out]
      exact ⟨A3, c3, rfl, hC3.out, hle.out, hb3.out⟩
    | succ k1 =>
      have hi : i < 16 := by have := HK.out; omega
      have i1 : (i : Int) < 16 := by omega
      have i0 : (0 : Int) ≤ (i : Int) := by omega
      have d3 : decide ((i : Int) < 16) = true := decide_eq_true (by omega)
      have d4 : decide (i < 16) = true := decide_eq_true (by omega)
      have hrun := hidx.out wr i hi
      have hpl := plF_length L i
      have hal : ((plF L i).length + 1) * 8 ≤ 140737488355328 := by omega
      have hsz : wr.heap.size ≥ w.heap.size := HB.out.size
      have hsu : plF L (i + 1) = if 0 < L.getD (i * 3) 0 then plF L i ++ [L.getD (i * 3 + 1) 0] else plF L i := rfl
      generalize L.getD (i * 3) 0 = x0 at hrun hsu
      generalize L.getD (i * 3 + 1) 0 = x1 at hrun hsu
      generalize L.getD (i * 3 + 2) 0 = x2 at hrun hsu
      have ws := Aside0.mk (w64s i (by omega))
      have hR1 : Aside0 (Kd.R (Kd.int .i64) 3 (wr.alloc (.cells #[.int .i64 x0, .int .i64 x1, .int .i64 x2] 50 (0, 0))) w.heap.size (fun _ => True) (.slice A3 (plF L i).length c3) (plF L i)) := ⟨Kd.R_below HR.out (below_alloc (Below.refl _ _) _)⟩
      have hB1 : Aside0 (Below w.heap.size w (wr.alloc (.cells #[.int .i64 x0, .int .i64 x1, .int .i64 x2] 50 (0, 0)))) := ⟨HB.out.alloc HB.out.size _⟩
      replace hsz := Aside0.mk hsz
      replace hal := Aside0.mk hal
      replace hsu := Aside0.mk hsu
      clear hidx hpl
      by_cases hx : 0 < x0
      · have b1 : decide (x0 > 0) = true := decide_eq_true hx
        have hs2 := hsu.out
        rw [if_pos hx] at hs2
        replace hs2 := Aside0.mk hs2
        replace hx := Aside0.mk hx
        have k1x : (wr.alloc (.cells #[.int .i64 x0, .int .i64 x1, .int .i64 x2] 50 (0, 0))).cell? ⟨wr.heap.size, 1, none⟩ = some (.int .i64 x1) := (blk_cell (blk_new wr _) 1).trans rfl
        go_upto_region 8 with fail
        generalize wr.alloc (.cells #[.int .i64 x0, .int .i64 x1, .int .i64 x2] 50 (0, 0)) = w1 at hR1 hB1 k1x ⊢
        go_wp2_with ((with_reducible refine gate_builtin (b := .append) (xs := #[.tmp 18, .tmp 21]) rfl ?_); at_builtin; refine Kd.R_append (Kd.int .i64) (w0 := w) w.heap.size rfl (.tmp 18) (.tmp 21) 34 3 (.int .i64 0) 8 rfl Try.underlying34 info3 rfl (by decide) (by omega) (.slice A3 (plF L i).length c3) (plF L i) x1 [.int .i64 x1] (fun _ => True) (fun _ => False) rfl rfl ?aP (fun _ hk => hk.elim) ?aF ?aO ?aB ?aS ?aL ?_; (case aP => exact rfl); (case aB => exact hB1.out); (case aF => exact (fun _ _ => trivial)); (case aO => exact hR1.out); (case aS => exact hB1.out.size); (case aL => exact hal.out); intro v4 w4 ho4 hb4 hg4 hat4; obtain ⟨A4, c4, e4⟩ := Kd.R_slice ho4; rw [List.length_append, List.length_singleton] at e4; subst e4; clear hg4 hat4; replace ho4 := Aside0.mk ho4; replace hb4 := Aside0.mk hb4)
        go_roundg k1
        case measure => omega
        case rel => exact ⟨i + 1, by first | rw [ws.out] | rfl, ⟨by have := HK.out; omega⟩, by rw [hs2.out]; exact ho4.out, hb4⟩
      · have b1 : decide (x0 > 0) = false := decide_eq_false hx
        have hs2 := hsu.out
        rw [if_neg hx] at hs2
        replace hs2 := Aside0.mk hs2
        replace hx := Aside0.mk hx
        go_wp2
        go_roundg k1
        case measure => omega
        case rel => exact ⟨i + 1, by first | rw [ws.out] | rfl, ⟨by have := HK.out; omega⟩, by rw [hs2.out]; exact hR1.out, hB1⟩
end Go.Proofs.Ytfmkjdbhijeejaa.Hand
