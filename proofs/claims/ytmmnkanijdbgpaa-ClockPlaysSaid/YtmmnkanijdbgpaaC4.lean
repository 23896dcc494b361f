/- clock's example, walked by hand. -/
import Derived.Test.YtmmnkanijdbgpaaC3
namespace Go.Proofs.Ytmmnkanijdbgpaa.Hand
set_option linter.unusedVariables false
set_option linter.unusedSimpArgs false
open Go.RowKit Go.Proofs.Ytmmnkanijdbgpaa.R Go.Proofs.YtmmnkanijdbgpaaW.PrintWords Go.Proofs.YtmmnkanijdbgpaaW.PrintLast Go.Proofs.YtmmnkanijdbgpaaW.PrintMore

def once (hc : Nat) (b : Bool) (W : World) : Prop := W.heap[hc]? = some (.cells #[.bool b] 4 (0, 0))
def ask2 (b : Bool) (f : Int) : Bool := b && (f == 2)
def nxt2 (b : Bool) (f : Int) : Bool := b && !(f == 2)
set_option maxHeartbeats 8000000 in
set_option maxRecDepth 100000 in
theorem spare_calls (hc : Nat) (b : Bool) (f : Nat) (W : World) (h : once hc b W) : Calls Try.prog 22 #[.int .i64 (f : Int), .pointer (some ⟨hc, 0, none⟩)] W fun e w' => e = .returned (.bool (ask2 b (f : Int))) ∧ once hc (nxt2 b (f : Int)) w' ∧ Far (fun k => k = hc) W w' := by
  have k0 : W.cell? ⟨hc, 0, none⟩ = some (.bool b) := (blk_cell h 0).trans rfl
  have f0 := blk_frozen h 0
  have H := Aside0.mk h
  clear h
  unfold ask2 nxt2
  cases b with
  | false =>
    go_enter Try.func22, Try.ntmps22
    go_wp2
    go_returns
    exact ⟨rfl, H.out, Far.refl _ _⟩
  | true =>
    cases hf : ((f : Int) == 2) with
    | false =>
      go_enter Try.func22, Try.ntmps22
      go_wp2
      go_returns
      exact ⟨rfl, H.out, Far.refl _ _⟩
    | true =>
      go_enter Try.func22, Try.ntmps22
      go_wp2
      go_returns
      exact ⟨rfl, blk_put H.out 0 _ (by simp), (Far.refl _ _).set1 _ _⟩

def L1 : List Int := addL zeros 2 0
def L2 : List Int := addL L1 5 1
def L3 : List Int := L2.set 96 6
theorem l1ok : addOk zeros 2 0 = true := by decide +kernel
theorem l2ok : addOk L1 5 1 = true := by decide +kernel
theorem L2len : L2.length = 98 := by decide +kernel
theorem L3len : L3.length = 98 := by decide +kernel
theorem r2 : rnd L2 [] 0 96 = [2, 5] := by decide +kernel
theorem r3 : rnd L3 [] 6 96 = [2, 5] := by decide +kernel
theorem once_far {hc g : Nat} {b : Bool} {W : World} (h : once hc b W) (hne : hc ≠ g) (i : Nat) (u : Value) : once hc b (W.setCell ⟨g, i, none⟩ u) := blk_far h (p := ⟨g, i, none⟩) hne u

theorem turn1 (g hc : Nat) (w : World) (hb : CS w g L2) (ho : once hc true w) (hcg : hc ≠ g) (hcw : hc < w.heap.size) :
    Calls Try.prog 10 #[.pointer (some ⟨g, 0, none⟩), .func (.func 22) #[] #[.pointer (some ⟨hc, 0, none⟩)], .slice none 0 0] w fun e w' => e = .returned (.tuple #[.int .i64 5, .bool true]) ∧ CS w' g L3 ∧ once hc false w' ∧ Far (fun k => k = g ∨ k = hc) w w' := by
  have t := turn_lives (once hc) ask2 nxt2 hc (fun s W W' h hB => blk_below h hB) (fun s f W h _ => spare_calls hc s f W h) true g (fun s W i u h => once_far h hcg i u) L2 L2len 0 (by decide +kernel) (by omega) none 0 [] w hb (Kd.C_nil _ _) (Nat.le_refl _) (by decide) 2 [5] r2 (by omega) ho hcg hcw
  rw [r2] at t
  refine Calls.mono t ?_
  rintro e w' ⟨y, hy, rfl, h1, h2, h3, h4⟩
  have e1 : (askAll ask2 nxt2 true ([2, 5] ++ [2, 5])).2.getD 2 = 5 := by decide +kernel
  have e2 : (askAll ask2 nxt2 true ([2, 5] ++ [2, 5])).1 = false := by decide +kernel
  have e3 : (y : Int) = 5 := h1.trans e1
  obtain rfl : y = 5 := by omega
  rw [e2] at h2
  exact ⟨rfl, h3, h2, h4⟩
theorem turn2 (g hc : Nat) (w : World) (hb : CS w g L3) (ho : once hc false w) (hcg : hc ≠ g) (hcw : hc < w.heap.size) :
    Calls Try.prog 10 #[.pointer (some ⟨g, 0, none⟩), .func (.func 22) #[] #[.pointer (some ⟨hc, 0, none⟩)], .slice none 0 0] w fun e w' => e = .returned (.tuple #[.int .i64 2, .bool true]) ∧ Far (fun k => k = g ∨ k = hc) w w' := by
  have t := turn_lives (once hc) ask2 nxt2 hc (fun s W W' h hB => blk_below h hB) (fun s f W h _ => spare_calls hc s f W h) false g (fun s W i u h => once_far h hcg i u) L3 L3len 6 (by decide +kernel) (by omega) none 0 [] w hb (Kd.C_nil _ _) (Nat.le_refl _) (by decide) 2 [5] r3 (by omega) ho hcg hcw
  rw [r3] at t
  refine Calls.mono t ?_
  rintro e w' ⟨y, hy, rfl, h1, h2, h3, h4⟩
  have e1 : (askAll ask2 nxt2 false ([2, 5] ++ [2, 5])).2.getD 2 = 2 := by decide +kernel
  have e3 : (y : Int) = 2 := h1.trans e1
  obtain rfl : y = 2 := by omega
  exact ⟨rfl, h4⟩

set_option maxHeartbeats 8000000 in
set_option maxRecDepth 100000 in
theorem lives_calls (w : World) : Calls Try.prog 6 #[] w fun e w' => e = .returned (.bool true) ∧ Below w.heap.size w w' := by
  have hmf : ∀ (fn : Fn) (first cap : Array Value) (w : World), (Instr.makeFunc fn first cap).run Try.prog w = .ok (.func fn first cap) w := fun _ _ _ _ => rfl
  go_enter Try.func6, Try.ntmps6
  go_upto_region 2 with (go_at_call 7; refine (new_calls _).mono ?_; rintro e w1 ⟨rfl, rfl⟩)
  have hb1 : CS (w.alloc (.cells (ints zeros) 51 (0, 0))) w.heap.size zeros := blk_new w _
  have hf1 : Far (fun k => w.heap.size ≤ k) w (w.alloc (.cells (ints zeros) 51 (0, 0))) := Far.alloc (Far.refl _ _) _
  have hs1 : w.heap.size < (w.alloc (.cells (ints zeros) 51 (0, 0))).heap.size := blk_lt hb1
  replace hb1 := Aside0.mk hb1
  replace hf1 := Aside0.mk hf1
  replace hs1 := Aside0.mk hs1
  go_upto_region 3 with (go_at_call 8; refine (add_calls w.heap.size zeros (by decide) 2 0 _ hb1.out).mono ?_; rintro e w2 ⟨rfl, hb2, hf2⟩; replace hb2 := Aside0.mk hb2; replace hf2 := Aside0.mk (hf1.out.then_ (hf2.mono (fun k h => by rw [h]; exact Nat.le_refl _))))
  go_upto_region 4 with (go_at_call 8; refine (add_calls w.heap.size _ (by decide +kernel) 5 1 _ hb2.out).mono ?_; rintro e w3 ⟨rfl, hb3, hf3⟩; replace hb3 := Aside0.mk hb3; replace hf3 := Aside0.mk (hf2.out.then_ (hf3.mono (fun k h => by rw [h]; exact Nat.le_refl _))))
  go_upto_region 6 with (fail)
  have ho4 : once w3.heap.size true (w3.alloc (.cells #[.bool true] 4 (0, 0))) := blk_new w3 _
  have hb4 := blk_alloc hb3.out (.cells #[.bool true] 4 (0, 0))
  have hf4 := Far.alloc hf3.out (.cells #[.bool true] 4 (0, 0))
  have hlt := blk_lt ho4
  have hne : w3.heap.size ≠ w.heap.size := by have := blk_lt hb3.out; omega
  have hge : w.heap.size ≤ w3.heap.size := hf3.out.size
  have C1 := Aside0.mk (turn1 w.heap.size w3.heap.size _ hb4 ho4 hne hlt)
  replace hf4 := Aside0.mk hf4
  replace hlt := Aside0.mk hlt
  replace hne := Aside0.mk hne
  replace hge := Aside0.mk hge
  clear ho4 hb4
  go_upto_region 7 with (go_at_call 10; refine C1.out.mono ?_; rintro e w5 ⟨rfl, hb5, ho5, hf5⟩; replace hb5 := Aside0.mk hb5; replace ho5 := Aside0.mk ho5; replace hf5 := Aside0.mk hf5)
  have C2 := Aside0.mk (turn2 w.heap.size w3.heap.size w5 hb5.out ho5.out hne.out (Nat.lt_of_lt_of_le hlt.out hf5.out.size))
  go_wp2_with (go_at_call 10; refine C2.out.mono ?_; rintro e w6 ⟨rfl, hf6⟩; replace hf6 := Aside0.mk hf6)
  go_returns
  have hk : ∀ k, k = w.heap.size ∨ k = w3.heap.size → w.heap.size ≤ k := fun k hk => by rcases hk with h | h <;> rw [h]; exact Nat.le_refl _; exact hge.out
  exact ⟨rfl, ((hf4.out.then_ (hf5.out.mono hk)).then_ (hf6.out.mono hk)).below (Nat.le_refl _) (fun i h => h)⟩

end Go.Proofs.Ytmmnkanijdbgpaa.Hand
