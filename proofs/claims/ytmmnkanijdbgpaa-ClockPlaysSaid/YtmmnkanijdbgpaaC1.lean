/- clock's small functions, walked by hand: New, in, Add, Hand, Len. -/
import Derived.Test.YtmmnkanijdbgpaaFar
import Derived.Test.YtmmnkanijdbgpaaRx1
import Derived.Test.YtmmnkanijdbgpaaCopyAt
import Derived.Handy
namespace Go.Proofs.Ytmmnkanijdbgpaa.Hand
set_option linter.unusedVariables false
set_option linter.unusedSimpArgs false
open Go.RowKit Go.Proofs.Ytmmnkanijdbgpaa.R Go.Proofs.YtmmnkanijdbgpaaW.PrintWords Go.Proofs.YtmmnkanijdbgpaaW.PrintLast Go.Proofs.YtmmnkanijdbgpaaW.PrintMore

def ints (L : List Int) : Array Value := (L.map (Value.int .i64)).toArray
theorem ints_cell {w : World} {g : Nat} {L : List Int} {T : TypeId} (hb : w.heap[g]? = some (.cells (ints L) T (0, 0))) (o : Nat) (ho : o < L.length) : w.cell? ⟨g, o, none⟩ = some (.int .i64 (L.getD o 0)) := by
  rw [blk_cell hb]
  unfold ints
  simp [ho]
theorem ints_set {w : World} {g : Nat} {L : List Int} {T : TypeId} (hb : w.heap[g]? = some (.cells (ints L) T (0, 0))) (o : Nat) (q : Int) : (w.setCell ⟨g, o, none⟩ (.int .i64 q)).heap[g]? = some (.cells (ints (L.set o q)) T (0, 0)) := by
  refine blk_put hb o (.int .i64 q) ?_
  unfold ints
  simp
/-- A clock in memory. -/
def CS (w : World) (g : Nat) (L : List Int) : Prop := w.heap[g]? = some (.cells (ints L) 51 (0, 0))
def zeros : List Int := List.replicate 98 0
def inC (L : List Int) (f : Int) : Bool := decide (0 ≤ f) && (decide (f < 96) && decide (0 < L.getD f.toNat 0))

set_option maxHeartbeats 8000000 in
set_option maxRecDepth 100000 in
theorem new_calls (w : World) : Calls Try.prog 7 #[] w fun e w' => e = .returned (.pointer (some ⟨w.heap.size, 0, none⟩)) ∧ w' = w.alloc (.cells (ints zeros) 51 (0, 0)) := by
  obtain ⟨Z, hZ⟩ : ∃ Z, Z = ints zeros := ⟨_, rfl⟩
  rw [← hZ]
  have hz : ∀ w, (zeroValue 51).run Try.prog w = .ok (.agg Z) w := by
    intro w
    rw [hZ]
    kernel_rfl
  have hs : Z.size = 98 := by rw [hZ]; kernel_rfl
  have hne : ¬ Z = #[] := by
    intro e
    rw [e] at hs
    cases hs
  clear hZ
  go_enter Try.func7, Try.ntmps7
  go_wp2
  go_returns
  exact ⟨rfl, rfl⟩
set_option maxHeartbeats 8000000 in
set_option maxRecDepth 100000 in
theorem hand_calls (g : Nat) (L : List Int) (hL : L.length = 98) (w : World) (hb : CS w g L) : Calls Try.prog 9 #[.pointer (some ⟨g, 0, none⟩)] w fun e w' => e = .returned (.int .i64 (L.getD 96 0)) ∧ w' = w := by
  have k := ints_cell hb 96 (by omega)
  clear hb
  generalize L.getD 96 0 = q at k ⊢
  go_enter Try.func9, Try.ntmps9
  go_wp2
  go_returns
  exact ⟨rfl, rfl⟩
set_option maxHeartbeats 8000000 in
set_option maxRecDepth 100000 in
theorem len_calls (g : Nat) (L : List Int) (hL : L.length = 98) (w : World) (hb : CS w g L) : Calls Try.prog 12 #[.pointer (some ⟨g, 0, none⟩)] w fun e w' => e = .returned (.int .i64 (L.getD 97 0)) ∧ w' = w := by
  have k := ints_cell hb 97 (by omega)
  clear hb
  generalize L.getD 97 0 = q at k ⊢
  go_enter Try.func12, Try.ntmps12
  go_wp2
  go_returns
  exact ⟨rfl, rfl⟩
set_option maxHeartbeats 8000000 in
set_option maxRecDepth 100000 in
theorem in_calls (g : Nat) (L : List Int) (hL : L.length = 98) (f : Int) (w : World) (hb : CS w g L) : Calls Try.prog 23 #[.pointer (some ⟨g, 0, none⟩), .int .i64 f] w fun e w' => e = .returned (.bool (inC L f)) ∧ w' = w := by
  unfold inC
  by_cases h0 : 0 ≤ f
  · have d0 : decide (0 ≤ f) = true := decide_eq_true h0
    have d0' : decide (f ≥ 0) = true := decide_eq_true h0
    obtain ⟨x, rfl⟩ : ∃ x : Nat, f = (x : Int) := ⟨f.toNat, by omega⟩
    by_cases h1 : x < 96
    · have d1 : decide ((x : Int) < 96) = true := decide_eq_true (by omega)
      have d2 : decide (x < 96) = true := decide_eq_true h1
      have k := ints_cell hb x (by omega)
      have x0 : (0 : Int) ≤ (x : Int) := by omega
      have x1 : (x : Int) < 96 := by omega
      rw [Int.toNat_natCast]
      clear hb
      generalize L.getD x 0 = q at k ⊢
      go_enter Try.func23, Try.ntmps23
      go_wp2
      go_returns
      exact ⟨by simp [x1], rfl⟩
    · have d1 : decide ((x : Int) < 96) = false := decide_eq_false (by omega)
      have d2 : decide (x < 96) = false := decide_eq_false h1
      have x1 : ¬ (x : Int) < 96 := by omega
      clear hb
      go_enter Try.func23, Try.ntmps23
      go_wp2
      go_returns
      exact ⟨by simp [x1], rfl⟩
  · have d0 : decide (0 ≤ f) = false := decide_eq_false h0
    have d0' : decide (f ≥ 0) = false := decide_eq_false h0
    clear hb
    go_enter Try.func23, Try.ntmps23
    go_wp2
    go_returns
    exact ⟨by simp [d0], rfl⟩

def addOk (L : List Int) (f p : Int) : Bool := decide (0 ≤ f ∧ f < 96 ∧ 0 ≤ p ∧ p < 68719476736) && !(inC L f)
def addL (L : List Int) (f p : Int) : List Int := if addOk L f p then (L.set f.toNat (p + 1)).set 97 (wrap64 (L.getD 97 0 + 1)) else L
theorem addL_length (L : List Int) (f p : Int) : (addL L f p).length = L.length := by unfold addL; split <;> simp
theorem wp1 (p : Nat) (h : p < 68719476736) : wrap64 ((p : Int) + 1) = (p : Int) + 1 := by unfold wrap64; omega
set_option maxHeartbeats 8000000 in
set_option maxRecDepth 100000 in
theorem add_calls (g : Nat) (L : List Int) (hL : L.length = 98) (f p : Int) (w : World) (hb : CS w g L) : Calls Try.prog 8 #[.pointer (some ⟨g, 0, none⟩), .int .i64 f, .int .i64 p] w fun e w' => e = .returned (.bool (addOk L f p)) ∧ CS w' g (addL L f p) ∧ Far (fun x => x = g) w w' := by
  have hin := Aside0.mk (in_calls g L hL f w hb)
  have H := Aside0.mk hb
  by_cases h0 : f < 0
  · have e : addOk L f p = false := by unfold addOk; rw [decide_eq_false (by omega)]; rfl
    unfold addL
    rw [e]
    have d0 : decide (f < 0) = true := decide_eq_true h0
    clear hb
    go_enter Try.func8, Try.ntmps8
    go_wp2
    go_returns
    exact ⟨rfl, H.out, Far.refl _ _⟩
  have d0 : decide (f < 0) = false := decide_eq_false h0
  obtain ⟨x, rfl⟩ : ∃ x : Nat, f = (x : Int) := ⟨f.toNat, by omega⟩
  by_cases h1 : ¬ x < 96
  · have e : addOk L (x : Int) p = false := by unfold addOk; rw [decide_eq_false (by omega)]; rfl
    unfold addL
    rw [e]
    have d1 : decide ((x : Int) ≥ 96) = true := decide_eq_true (by omega)
    have d2 : decide (96 ≤ (x : Int)) = true := decide_eq_true (by omega)
    have d3 : decide (96 ≤ x) = true := decide_eq_true (by omega)
    clear hb
    go_enter Try.func8, Try.ntmps8
    go_wp2
    go_returns
    exact ⟨rfl, H.out, Far.refl _ _⟩
  have d1 : decide ((x : Int) ≥ 96) = false := decide_eq_false (by omega)
  have d2 : decide (96 ≤ (x : Int)) = false := decide_eq_false (by omega)
  have d3 : decide (96 ≤ x) = false := decide_eq_false (by omega)
  by_cases h2 : p < 0
  · have e : addOk L (x : Int) p = false := by unfold addOk; rw [decide_eq_false (by omega)]; rfl
    unfold addL
    rw [e]
    have d4 : decide (p < 0) = true := decide_eq_true h2
    clear hb
    go_enter Try.func8, Try.ntmps8
    go_wp2
    go_returns
    exact ⟨rfl, H.out, Far.refl _ _⟩
  have d4 : decide (p < 0) = false := decide_eq_false h2
  obtain ⟨y, rfl⟩ : ∃ y : Nat, p = (y : Int) := ⟨p.toNat, by omega⟩
  by_cases h3 : ¬ y < 68719476736
  · have e : addOk L (x : Int) (y : Int) = false := by unfold addOk; rw [decide_eq_false (by omega)]; rfl
    unfold addL
    rw [e]
    have d5 : decide ((y : Int) ≥ 68719476736) = true := decide_eq_true (by omega)
    have d6 : decide (68719476736 ≤ (y : Int)) = true := decide_eq_true (by omega)
    have d7 : decide (68719476736 ≤ y) = true := decide_eq_true (by omega)
    clear hb
    go_enter Try.func8, Try.ntmps8
    go_wp2
    go_returns
    exact ⟨rfl, H.out, Far.refl _ _⟩
  have d5 : decide ((y : Int) ≥ 68719476736) = false := decide_eq_false (by omega)
  have d6 : decide (68719476736 ≤ (y : Int)) = false := decide_eq_false (by omega)
  have d7 : decide (68719476736 ≤ y) = false := decide_eq_false (by omega)
  have e : addOk L (x : Int) (y : Int) = !(inC L (x : Int)) := by unfold addOk; rw [decide_eq_true (by omega)]; rfl
  unfold addL
  rw [e]
  have ew := Aside0.mk (wp1 y (by omega))
  have hx98 : x < 98 := by omega
  have x0 : (0 : Int) ≤ (x : Int) := by omega
  have x1 : (x : Int) < 96 := by omega
  have kx := ints_cell hb x (by omega)
  have k97 := ints_cell hb 97 (by omega)
  have fx := blk_frozen hb x
  have f97 := blk_frozen hb 97
  have hne : ¬ x = 97 := by omega
  have hne2 : ¬ (97 : Nat) = x := by omega
  clear hb
  obtain ⟨q, hq⟩ : ∃ q, q = L.getD 97 0 := ⟨_, rfl⟩
  rw [← hq] at k97 ⊢
  clear hq
  cases hI : inC L (x : Int) with
  | true =>
    rw [hI] at hin
    go_enter Try.func8, Try.ntmps8
    go_wp2_with (go_at_call 23; refine hin.out.mono ?_; rintro e w2 ⟨rfl, rfl⟩)
    go_returns
    exact ⟨rfl, H.out, Far.refl _ _⟩
  | false =>
    rw [hI] at hin
    go_enter Try.func8, Try.ntmps8
    go_upto_region 3 with (go_at_call 23; refine hin.out.mono ?_; rintro e w2 ⟨rfl, rfl⟩)
    go_wp2
    go_returns
    refine ⟨rfl, ?_, ?_⟩
    · have h1 := ints_set H.out x ((y : Int) + 1)
      have h2 := ints_set h1 97 (wrap64 (q + 1))
      first | exact h2 | (rw [ew.out]; exact h2)
    · exact ((Far.refl _ _).set1 _ _).set1 _ _

end Go.Proofs.Ytmmnkanijdbgpaa.Hand
