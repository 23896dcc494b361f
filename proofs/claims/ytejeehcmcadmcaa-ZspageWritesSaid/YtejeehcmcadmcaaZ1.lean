/- ZspagePieces: the pieces, by definition; the iterator that tells them. -/
import Derived.Test.YtejeehcmcadmcaaRx1
import Derived.Test.YtejeehcmcadmcaaFar
import Derived.RangeFuncBox
import Derived.RangeFuncLeaves
import Derived.Shelf.Abstract
import Derived.OwnWalkIn
import Derived.TacticsInMore
import Derived.LoopNIn
import Derived.LoopIn
namespace Go.Proofs.Ytejeehcmcadmcaa.Hand
set_option linter.unusedVariables false
set_option linter.unusedSimpArgs false
open Go.RowKit Go.Proofs.Ytejeehcmcadmcaa.R Go.Proofs.YtejeehcmcadmcaaW.PrintWords Go.Proofs.YtejeehcmcadmcaaW.PrintLast Go.Proofs.YtejeehcmcadmcaaW.PrintMore

def enc3 (x : S28) : Value := .agg #[.int .i64 x.f0, .int .i64 x.f1, .int .i64 x.f2]
def one (a m : Nat) : S28 := ⟨((a / 4096 : Nat) : Int), ((a % 4096 : Nat) : Int), (m : Int)⟩
/-- How many of m bytes at a lie in the first frame. -/
def hd (a m : Nat) : Nat := if m ≤ 4096 - a % 4096 then m else 4096 - a % 4096
def pcs (a m : Nat) : List S28 := if m = 0 then [] else if m ≤ 4096 - a % 4096 then [one a m] else [one a (4096 - a % 4096), one (a + (4096 - a % 4096)) (m - (4096 - a % 4096))]
theorem pcs_zero (a : Nat) : pcs a 0 = [] := rfl
theorem hd_pos {a m : Nat} (hm : 0 < m) : 0 < hd a m ∧ hd a m ≤ m ∧ hd a m ≤ 4096 := by
  unfold hd
  split <;> omega
theorem pcs_len (a m : Nat) : (pcs a m).length ≤ 2 := by
  unfold pcs
  split
  · simp
  · split <;> simp
theorem pcs_step {a m : Nat} (hm : 0 < m) (h : m ≤ 4096) : pcs a m = one a (hd a m) :: pcs (a + hd a m) (m - hd a m) := by
  unfold pcs hd
  rw [if_neg (by omega)]
  by_cases c : m ≤ 4096 - a % 4096
  · rw [if_pos c, if_pos c, if_pos (by omega)]
  · rw [if_neg c, if_neg c, if_neg (by omega), if_pos (by omega)]

/-- A cell's number. -/
def numAt (b : Nat) (w : World) : Nat := ((w.cell? ⟨b, 0, none⟩).map fun v => match v with
  | .int _ x => x.toNat
  | _ => 0).getD 0
theorem numAt_eq {b : Nat} {w : World} {m : Nat} (h : w.cell? ⟨b, 0, none⟩ = some (.int .i64 (m : Int))) : numAt b w = m := by
  unfold numAt
  rw [h]
  rfl

theorem w64d (m d : Nat) (h : d ≤ m) (h2 : m < 9223372036854775807) : wrap64 ((m : Int) - (d : Int)) = ((m - d : Nat) : Int) := by unfold wrap64; omega
theorem hbox {w : World} {b t : Nat} {v : Value} (h : w.heap[b]? = some (.cells #[v] t (0, 0))) : w.cell? ⟨b, 0, none⟩ = some v := by
  unfold World.cell?
  rw [h]
  rfl

attribute [local go_sem] Oper.semAt_some max2_int min2_int max_two min_two
set_option maxHeartbeats 8000000 in
set_option maxRecDepth 100000 in
theorem pieces1_in (l sb nb fb mb k : Nat) (size n from_ many : Nat) (J : List S28 → World → Prop) (w : World)
    (hY : ∀ pre x W0 W, pre.length < (pcs (size * n + from_) many).length → J pre W0 → Far (fun i => i = mb) W0 W → YieldAt Fence.wide (k - 1) Try.prog l #[enc3 x] W fun e W' =>
      e = .returned (.bool true) ∧ J (pre ++ [x]) W' ∧ ∀ i, (i = mb ∨ (W0.heap.size ≤ i ∧ i < W.heap.size)) → W'.heap[i]? = W.heap[i]?)
    (hs : w.heap[sb]? = some (.cells #[.int .i64 (size : Int)] 3 (0, 0))) (hn : w.heap[nb]? = some (.cells #[.int .i64 (n : Int)] 3 (0, 0)))
    (hf : w.heap[fb]? = some (.cells #[.int .i64 (from_ : Int)] 3 (0, 0))) (hm : w.heap[mb]? = some (.cells #[.int .i64 (many : Int)] 3 (0, 0)))
    (b1 : size ≤ 4096) (b2 : n ≤ 255) (b3 : from_ ≤ 4096) (b4 : many ≤ 4096) (h0 : J [] w) (hmw : mb < w.heap.size) :
    CallsIn Fence.wide k Try.prog 24 #[.func (.yield l) #[] #[], .pointer (some ⟨sb, 0, none⟩), .pointer (some ⟨nb, 0, none⟩), .pointer (some ⟨fb, 0, none⟩), .pointer (some ⟨mb, 0, none⟩)] w fun e w' =>
      (∃ v, e = .returned v) ∧ ∃ W0, J (pcs (size * n + from_) many) W0 ∧ Far (fun i => i = mb) W0 w' := by
  have ks := hbox hs
  have kn := hbox hn
  have kf := hbox hf
  have km := hbox hm
  replace hm := Aside0.mk hm
  replace h0 := Aside0.mk h0
  clear hs hn hf
  have hsn : size * n ≤ 1044480 := Nat.mul_le_mul b1 b2
  refine callsIn_of_wp Try.func24 rfl trivial ?_ rfl
  simp only [Try.ntmps24, List.size_toArray, List.length_cons, List.length_nil, Nat.reduceAdd, Nat.reduceSub, Array.replicate_succ, Array.replicate_zero, List.push_toArray, List.append_toArray, List.nil_append, List.cons_append]
  gi_wp2
  gi_loopw [6] (fun v6 wr => ∃ (pre : List S28) (a m : Nat) (W0 : World), v6 = .int .i64 (a : Int) ∧ Aside0 (pcs (size * n + from_) many = pre ++ pcs a m) ∧ Aside0 (m ≤ 4096 ∧ a + m ≤ 2000000) ∧ Aside0 (J pre W0) ∧ Aside0 (Far (fun i => i = mb) W0 wr) ∧ Aside0 (wr.heap[mb]? = some (.cells #[.int .i64 (m : Int)] 3 (0, 0)))) (fun _ wr => numAt mb wr)
  case atStart => exact ⟨[], size * n + from_, many, w, by rw [show ((size : Int) * n + from_) = ((size * n + from_ : Nat) : Int) by omega], ⟨by simp⟩, ⟨by omega⟩, h0, ⟨Far.refl _ _⟩, hm⟩
  case round =>
    obtain ⟨pre, a, m, W0, rfl, HP, HB, HJ, HF, HM⟩ := hrel
    have km := hbox HM.out
    have kma : ∀ o, (wr.alloc o).cell? ⟨mb, 0, none⟩ = some (.int .i64 (m : Int)) := fun o => hbox (blk_alloc HM.out o)
    by_cases hm0 : m = 0
    · subst hm0
      have d1 : decide (((0 : Nat) : Int) > 0) = false := by decide
      have d2 : decide ((0 : Int) < ((0 : Nat) : Int)) = false := by decide
      gi_wp2
      go_end0
      refine ⟨⟨_, rfl⟩, W0, ?_, HF.out⟩
      rw [HP.out, pcs_zero, List.append_nil]
      exact HJ.out
    · have d1 : decide ((m : Int) > 0) = true := decide_eq_true (by omega)
      have d2 : decide ((0 : Int) < (m : Int)) = true := decide_eq_true (by omega)
      have d3 : decide (0 < m) = true := decide_eq_true (by omega)
      obtain ⟨q, hq⟩ : ∃ q, q = a / 4096 := ⟨_, rfl⟩
      obtain ⟨r, hr⟩ : ∃ r, r = a % 4096 := ⟨_, rfl⟩
      have e1 : (a : Int) / 4096 = (q : Int) := by omega
      have e2 : (a : Int) % 4096 = (r : Int) := by omega
      have hr4 : r < 4096 := by omega
      have hq4 : q < 2000000 := by have := HB.out; omega
      obtain ⟨d, hd⟩ : ∃ d, d = hd a m := ⟨_, rfl⟩
      have hdp := hd_pos (a := a) (m := m) (Nat.pos_of_ne_zero hm0)
      rw [← hd] at hdp
      have hpc := pcs_step (a := a) (m := m) (Nat.pos_of_ne_zero hm0) HB.out.1
      rw [← hd] at hpc
      have hcase : (m ≤ 4096 - r ∧ d = m) ∨ (¬ m ≤ 4096 - r ∧ d = 4096 - r) := by
        rw [hr, hd]
        unfold Hand.hd
        by_cases c : m ≤ 4096 - a % 4096
        · exact .inl ⟨c, by rw [if_pos c]⟩
        · exact .inr ⟨c, by rw [if_neg c]⟩
      have henc : enc3 (one a d) = .agg #[.int .i64 (q : Int), .int .i64 (r : Int), .int .i64 (d : Int)] := by rw [hq, hr]; rfl
      have hbp := blk_new wr (.cells #[.int .i64 (q : Int), .int .i64 (r : Int), .int .i64 (d : Int)] 29 (0, 0))
      have hsz : wr.heap.size < (wr.alloc (.cells #[.int .i64 (q : Int), .int .i64 (r : Int), .int .i64 (d : Int)] 29 (0, 0))).heap.size := blk_lt hbp
      obtain ⟨fn, tmps, assign, body, hy, hR⟩ := hY pre (one a d) W0 _ (by rw [HP.out, hpc]; simp) HJ.out (HF.out.alloc (.cells #[.int .i64 (q : Int), .int .i64 (r : Int), .int .i64 (d : Int)] 29 (0, 0)))
      rw [henc] at hy
      have hM2 := blk_alloc HM.out (.cells #[.int .i64 (q : Int), .int .i64 (r : Int), .int .i64 (d : Int)] 29 (0, 0))
      have hge := HF.out.size
      have hR2 : RoundIn Fence.wide (k - 1) Try.prog l fn tmps assign body (wr.alloc (.cells #[.int .i64 (q : Int), .int .i64 (r : Int), .int .i64 (d : Int)] 29 (0, 0))) fun e W' => e = .returned (.bool true) ∧ J (pre ++ [one a d]) W' ∧ W'.heap[mb]? = some (.cells #[.int .i64 (m : Int)] 3 (0, 0)) ∧ W'.heap[wr.heap.size]? = some (.cells #[.int .i64 (q : Int), .int .i64 (r : Int), .int .i64 (d : Int)] 29 (0, 0)) :=
        hR.mono (fun e W' h => ⟨h.1, h.2.1, (h.2.2 mb (.inl rfl)).trans hM2, (h.2.2 wr.heap.size (.inr ⟨hge, hsz⟩)).trans hbp⟩)
      replace hR2 := Aside0.mk hR2
      replace hq := Aside0.mk hq
      replace hr := Aside0.mk hr
      replace hd := Aside0.mk hd
      replace hpc := Aside0.mk hpc
      clear hR henc hbp hsz hM2 hge
      have hwr := Aside0.mk (w64d m d hdp.2.1 (by have := HB.out; omega))
      rcases hcase with ⟨c, rfl⟩ | ⟨c, ed⟩
      · have c1 : decide ((d : Int) ≤ 4096 - (r : Int)) = true := decide_eq_true (by omega)
        gi_wp2
        refine ⟨(fun h => (by cases h)), hR2.out.mono ?_⟩
        rintro e W3 ⟨rfl, hJ3, hm3, hp3⟩
        have km3 := hbox hm3
        have kp3 : W3.cell? ⟨wr.heap.size, 2, none⟩ = some (.int .i64 (d : Int)) := (blk_cell hp3 2).trans rfl
        have fm3 := blk_frozen hm3 0
        replace hJ3 := Aside0.mk hJ3
        have hset : Aside0 ((W3.setCell ⟨mb, 0, none⟩ (.int .i64 0)).heap[mb]? = some (.cells #[.int .i64 (((d - d : Nat)) : Int)] 3 (0, 0))) := ⟨by rw [Nat.sub_self]; exact blk_put hm3 0 (.int .i64 0) rfl⟩
        replace hm3 := Aside0.mk hm3
        clear hp3 hy hR2 kma km hwr
        gi_wp2
        go_roundw
        case rel => exact ⟨pre ++ [one a d], a + d, d - d, W3, by simp, ⟨by rw [HP.out, hpc.out]; simp⟩, ⟨by have := HB.out; omega⟩, hJ3, ⟨Far.set1 (Far.refl _ _) 0 _⟩, hset⟩
        case measure =>
          rw [numAt_eq (hbox HM.out), numAt_eq (hbox hset.out)]
          omega
      · have c2 : (4096 : Int) - (r : Int) = (d : Int) := by omega
        replace ed := Aside0.mk ed
        gi_wp2
        refine ⟨(fun h => (by cases h)), hR2.out.mono ?_⟩
        rintro e W3 ⟨rfl, hJ3, hm3, hp3⟩
        have km3 := hbox hm3
        have kp3 : W3.cell? ⟨wr.heap.size, 2, none⟩ = some (.int .i64 (d : Int)) := (blk_cell hp3 2).trans rfl
        have fm3 := blk_frozen hm3 0
        replace hJ3 := Aside0.mk hJ3
        have hset : Aside0 ((W3.setCell ⟨mb, 0, none⟩ (.int .i64 ((m - d : Nat) : Int))).heap[mb]? = some (.cells #[.int .i64 (((m - d : Nat)) : Int)] 3 (0, 0))) := ⟨blk_put hm3 0 (.int .i64 ((m - d : Nat) : Int)) rfl⟩
        replace hm3 := Aside0.mk hm3
        clear hp3 hy hR2 kma km
        gi_wp2
        rw [hwr.out]
        go_roundw
        case rel => exact ⟨pre ++ [one a d], a + d, m - d, W3, by simp, ⟨by rw [HP.out, hpc.out]; simp⟩, ⟨by have := HB.out; omega⟩, hJ3, ⟨Far.set1 (Far.refl _ _) 0 _⟩, hset⟩
        case measure =>
          rw [numAt_eq (hbox HM.out), numAt_eq (hbox hset.out)]
          omega

end Go.Proofs.Ytejeehcmcadmcaa.Hand
