/- tlb's functions, walked by hand: New, at, has, Note, Find. -/
import Derived.Test.YtfmkjdbhijeejaaFar
import Derived.Test.YtfmkjdbhijeejaaRx1
import Derived.Handy
namespace Go.Proofs.Ytfmkjdbhijeejaa.Hand
set_option linter.unusedVariables false
set_option linter.unusedSimpArgs false
open Go.RowKit Go.Proofs.Ytfmkjdbhijeejaa.R Go.Proofs.YtfmkjdbhijeejaaW.PrintWords Go.Proofs.YtfmkjdbhijeejaaW.PrintMore

def ints (L : List Int) : Array Value := (L.map (Value.int .i64)).toArray
def zeros : List Int := List.replicate 50 0

set_option maxHeartbeats 8000000 in
set_option maxRecDepth 100000 in
theorem new_calls (w : World) : Calls Try.prog 6 #[] w fun e w' => e = .returned (.pointer (some ⟨w.heap.size, 0, none⟩)) ∧ w' = w.alloc (.cells (ints zeros) 53 (0, 0)) := by
  go_enter Try.func6, Try.ntmps6
  go_wp2
  go_returns
  exact ⟨rfl, rfl⟩

set_option maxHeartbeats 8000000 in
set_option maxRecDepth 100000 in
theorem at_calls (g : Nat) (page : Nat) (w : World) (h : page < 68719476736) : Calls Try.prog 23 #[.pointer (some ⟨g, 0, none⟩), .int .i64 (page : Int)] w fun e w' => e = .returned (.pointer (some ⟨g, page % 16 * 3, none⟩)) ∧ w' = w := by
  have e1 : Int.tmod (page : Int) 16 = ((page % 16 : Nat) : Int) := by rw [Int.tmod_eq_emod_of_nonneg (by omega)]; rfl
  have e2 : page % 16 < 16 := Nat.mod_lt _ (by decide)
  go_enter Try.func23, Try.ntmps23
  go_wp2
  go_returns
  exact ⟨rfl, rfl⟩

theorem ints_cell {w : World} {g : Nat} {L : List Int} (hb : w.heap[g]? = some (.cells (ints L) 53 (0, 0))) {o : Nat} {q : Int} (hq : L[o]? = some q) : w.cell? ⟨g, o, none⟩ = some (.int .i64 q) := by
  rw [blk_cell hb]
  unfold ints
  simp [hq]
theorem ints_set {w : World} {g : Nat} {L : List Int} (hb : w.heap[g]? = some (.cells (ints L) 53 (0, 0))) (o : Nat) (q : Int) : (w.setCell ⟨g, o, none⟩ (.int .i64 q)).heap[g]? = some (.cells (ints (L.set o q)) 53 (0, 0)) := by
  refine blk_put hb o (.int .i64 q) ?_
  unfold ints
  simp

set_option maxHeartbeats 8000000 in
set_option maxRecDepth 100000 in
theorem has_calls (g o : Nat) (L : List Int) (q page : Int) (w : World) (hb : w.heap[g]? = some (.cells (ints L) 53 (0, 0))) (hq : L[o]? = some q) : Calls Try.prog 24 #[.pointer (some ⟨g, o, none⟩), .int .i64 page] w fun e w' => e = .returned (.bool (q == wrap64 (page + 1))) ∧ w' = w := by
  have hc := ints_cell hb hq
  go_enter Try.func24, Try.ntmps24
  go_wp2
  go_returns
  exact ⟨rfl, rfl⟩

/-- The uses' mask, and whether all may be. -/
def maskN : List Int → Int → Int × Bool
  | [], m => (m, true)
  | x :: r, m => if x = 1 ∨ x = 2 ∨ x = 4 then maskN r (Go.bits .or .i64 m x) else (0, false)
theorem mask_l0 (u : List Int) (hu : u.length < 4611686018427387904) (d : Nat) : ∀ (k i : Nat) (m : Int), i ≤ u.length → u.length - i = d → d < k → tlb_mask.l0 k m u (u.length : Int) (i : Int) = some (maskN (u.drop i) m) := by
  induction d with
  | zero =>
    intro k i m hi hd hk
    obtain ⟨k, rfl⟩ : ∃ n, k = n + 1 := ⟨k - 1, by omega⟩
    simp only [tlb_mask.l0]
    rw [if_neg (by omega), List.drop_eq_nil_of_le (by omega)]
    rfl
  | succ d ih =>
    intro k i m hi hd hk
    obtain ⟨k, rfl⟩ : ∃ n, k = n + 1 := ⟨k - 1, by omega⟩
    have hi' : i < u.length := by omega
    have e : rd u (i : Int) = u[i] := by
      unfold rd
      simp [hi']
    have e1 : wrap64 ((i : Int) + 1) = ((i + 1 : Nat) : Int) := by unfold wrap64; omega
    rw [List.drop_eq_getElem_cons hi']
    simp only [tlb_mask.l0, maskN]
    rw [if_pos (by omega), if_pos (by omega), if_pos (by omega), e, e1]
    by_cases h1 : u[i] = 1
    · rw [if_pos h1, if_pos (.inl h1), ih k (i + 1) _ (by omega) (by omega) (by omega)]
    · rw [if_neg h1]
      by_cases h2 : u[i] = 2
      · rw [if_pos h2, if_pos (.inr (.inl h2)), ih k (i + 1) _ (by omega) (by omega) (by omega)]
      · rw [if_neg h2]
        by_cases h4 : u[i] = 4
        · rw [if_pos h4, if_pos (.inr (.inr h4)), ih k (i + 1) _ (by omega) (by omega) (by omega)]
        · rw [if_neg h4, if_neg (by omega)]
theorem mask_some (u : List Int) (hu : u.length < 4611686018427387904) : tlb_mask.f (u.length + 1) u = some (maskN u 0) := mask_l0 u hu u.length (u.length + 1) 0 0 (by omega) (by omega) (by omega)

def noteL (L : List Int) (page : Nat) (frame m : Int) : List Int :=
  ((L.set (page % 16 * 3) ((page + 1 : Nat) : Int)).set (page % 16 * 3 + 1) frame).set (page % 16 * 3 + 2) (if L[page % 16 * 3]? = some ((page + 1 : Nat) : Int) ∧ L[page % 16 * 3 + 1]? = some frame then Go.bits .or .i64 m ((L[page % 16 * 3 + 2]?).getD 0) else m)

set_option maxHeartbeats 8000000 in
set_option maxRecDepth 100000 in
theorem note_yes (g : Nat) (L : List Int) (page : Nat) (frame : Int) (A : Option Addr) (c : Nat) (u : List Int) (m : Int) (w : World) (hb : w.heap[g]? = some (.cells (ints L) 53 (0, 0))) (hL : L.length = 50)
    (hu : Kd.C (Kd.int .i64) w A u.length u) (hc : u.length ≤ c) (hul : u.length < 4611686018427387904) (hm : maskN u 0 = (m, true)) (h1 : page < 68719476736) (h2 : 0 ≤ frame) (h3 : frame < 96) :
    Calls Try.prog 7 #[.pointer (some ⟨g, 0, none⟩), .int .i64 (page : Int), .int .i64 frame, .slice A u.length c] w fun e w' => e = .returned (.bool true) ∧ w'.heap[g]? = some (.cells (ints (noteL L page frame m)) 53 (0, 0)) ∧ Far (· = g) w w' := by
  have M : Aside0 (tlb_mask.f (u.length + 1) u = some (m, true)) := ⟨by rw [mask_some u hul, hm]⟩
  have H := Aside0.mk hb
  have HU := Aside0.mk hu
  clear hb hu hm
  have o16 : page % 16 < 16 := Nat.mod_lt _ (by decide)
  obtain ⟨q, hq⟩ : ∃ q, L[page % 16 * 3]? = some q := ⟨_, List.getElem?_eq_getElem (by omega)⟩
  obtain ⟨f, hf⟩ : ∃ q, L[page % 16 * 3 + 1]? = some q := ⟨_, List.getElem?_eq_getElem (by omega)⟩
  obtain ⟨s, hs⟩ : ∃ q, L[page % 16 * 3 + 2]? = some q := ⟨_, List.getElem?_eq_getElem (by omega)⟩
  have Q := Aside0.mk hq
  have F := Aside0.mk hf
  have S := Aside0.mk hs
  clear hq hf hs
  have d1 : decide ((page : Int) < 0) = false := decide_eq_false (by omega)
  have d2 : decide ((page : Int) ≥ 68719476736) = false := decide_eq_false (by omega)
  have d3 : decide (frame < 0) = false := decide_eq_false (by omega)
  have d4 : decide (frame ≥ 96) = false := decide_eq_false (by omega)
  have ew : wrap64 ((page : Int) + 1) = ((page + 1 : Nat) : Int) := by unfold wrap64; omega
  replace ew := Aside0.mk ew
  replace h1 := Aside0.mk h1
  replace h2 := Aside0.mk h2
  replace h3 := Aside0.mk h3
  replace o16 := Aside0.mk o16
  go_enter Try.func7, Try.ntmps7
  go_upto_region 2 with (go_at_call 22; with_reducible refine (tlb_mask.calls (u.length + 1) A c u m true _ HU.out hc M.out).mono ?_; rintro e w' ⟨rfl, ⟨nd, rfl⟩⟩)
  go_upto_region 5 with (go_at_call 23; with_reducible refine (at_calls g page _ h1.out).mono ?_; rintro e w' ⟨rfl, rfl⟩)
  have c0 := ints_cell (blk_drewN H.out nd) Q.out
  have c1 := ints_cell (blk_drewN H.out nd) F.out
  have c2 := ints_cell (blk_drewN H.out nd) S.out
  have fz := blk_frozen (blk_drewN H.out nd) (page % 16 * 3)
  have fz1 := blk_frozen (blk_drewN H.out nd) (page % 16 * 3 + 1)
  have fz2 := blk_frozen (blk_drewN H.out nd) (page % 16 * 3 + 2)
  go_wp2_with (go_at_call 24; with_reducible refine (has_calls g _ L q _ _ (blk_drewN H.out _) Q.out).mono ?_; rintro e w' ⟨rfl, rfl⟩)
  · rename_i e1 e2
    go_returns
    have e := ints_set (ints_set (ints_set (blk_drewN H.out nd) (page % 16 * 3) (wrap64 ((page : Int) + 1))) (page % 16 * 3 + 1) frame) (page % 16 * 3 + 2) (Go.bits .or .i64 m s)
    refine ⟨rfl, ?_, by repeat (with_reducible first | exact Far.refl _ _ | refine Far.set1 ?_ _ _ | refine Far.drewN ?_ _)⟩
    rw [ew.out] at e e1 ⊢
    unfold noteL
    rw [Q.out, F.out, S.out, if_pos ⟨by rw [e1], by rw [beq_iff_eq.mp e2]⟩]
    exact e
  · rename_i e1 e2
    go_returns
    have e := ints_set (ints_set (ints_set (blk_drewN H.out nd) (page % 16 * 3) (wrap64 ((page : Int) + 1))) (page % 16 * 3 + 1) frame) (page % 16 * 3 + 2) m
    refine ⟨rfl, ?_, by repeat (with_reducible first | exact Far.refl _ _ | refine Far.set1 ?_ _ _ | refine Far.drewN ?_ _)⟩
    rw [ew.out] at e e1 ⊢
    unfold noteL
    rw [Q.out, F.out, S.out, if_neg (fun h => absurd (Option.some.inj h.2) (beq_eq_false_iff_ne.mp e2))]
    exact e
  · rename_i e1
    go_returns
    have e := ints_set (ints_set (ints_set (blk_drewN H.out nd) (page % 16 * 3) (wrap64 ((page : Int) + 1))) (page % 16 * 3 + 1) frame) (page % 16 * 3 + 2) m
    refine ⟨rfl, ?_, by repeat (with_reducible first | exact Far.refl _ _ | refine Far.set1 ?_ _ _ | refine Far.drewN ?_ _)⟩
    rw [ew.out] at e e1 ⊢
    unfold noteL
    rw [Q.out, F.out, S.out, if_neg (fun h => absurd (Option.some.inj h.1) e1)]
    exact e

set_option maxHeartbeats 8000000 in
set_option maxRecDepth 100000 in
theorem note_no (g : Nat) (page frame : Int) (A : Option Addr) (c : Nat) (u : List Int) (m : Int) (ok : Bool) (w : World)
    (hu : Kd.C (Kd.int .i64) w A u.length u) (hc : u.length ≤ c) (hul : u.length < 4611686018427387904) (hm : maskN u 0 = (m, ok)) (h : ok = false ∨ page < 0 ∨ page ≥ 68719476736 ∨ frame < 0 ∨ frame ≥ 96) :
    Calls Try.prog 7 #[.pointer (some ⟨g, 0, none⟩), .int .i64 page, .int .i64 frame, .slice A u.length c] w fun e w' => e = .returned (.bool false) ∧ Drawn0 w w' := by
  have M : Aside0 (tlb_mask.f (u.length + 1) u = some (m, ok)) := ⟨by rw [mask_some u hul, hm]⟩
  have HU := Aside0.mk hu
  clear hu hm
  have HH := Aside0.mk h
  clear h
  obtain ⟨b1, d1⟩ : ∃ b, decide (page < 0) = b := ⟨_, rfl⟩
  obtain ⟨b2, d2⟩ : ∃ b, decide (page ≥ 68719476736) = b := ⟨_, rfl⟩
  obtain ⟨b3, d3⟩ : ∃ b, decide (frame < 0) = b := ⟨_, rfl⟩
  obtain ⟨b4, d4⟩ : ∃ b, decide (frame ≥ 96) = b := ⟨_, rfl⟩
  cases ok with
  | false =>
    go_enter Try.func7, Try.ntmps7
    go_wp2_with (go_at_call 22; with_reducible refine (tlb_mask.calls (u.length + 1) A c u m _ _ HU.out hc M.out).mono ?_; rintro e w' ⟨rfl, ⟨nd, rfl⟩⟩)
    go_returns
    exact ⟨rfl, ⟨_, rfl⟩⟩
  | true => cases b1 with
    | true =>
      go_enter Try.func7, Try.ntmps7
      go_wp2_with (go_at_call 22; with_reducible refine (tlb_mask.calls (u.length + 1) A c u m _ _ HU.out hc M.out).mono ?_; rintro e w' ⟨rfl, ⟨nd, rfl⟩⟩)
      go_returns
      exact ⟨rfl, ⟨_, rfl⟩⟩
    | false => cases b2 with
      | true =>
        go_enter Try.func7, Try.ntmps7
        go_wp2_with (go_at_call 22; with_reducible refine (tlb_mask.calls (u.length + 1) A c u m _ _ HU.out hc M.out).mono ?_; rintro e w' ⟨rfl, ⟨nd, rfl⟩⟩)
        go_returns
        exact ⟨rfl, ⟨_, rfl⟩⟩
      | false => cases b3 with
        | true =>
          go_enter Try.func7, Try.ntmps7
          go_wp2_with (go_at_call 22; with_reducible refine (tlb_mask.calls (u.length + 1) A c u m _ _ HU.out hc M.out).mono ?_; rintro e w' ⟨rfl, ⟨nd, rfl⟩⟩)
          go_returns
          exact ⟨rfl, ⟨_, rfl⟩⟩
        | false => cases b4 with
          | true =>
            go_enter Try.func7, Try.ntmps7
            go_wp2_with (go_at_call 22; with_reducible refine (tlb_mask.calls (u.length + 1) A c u m _ _ HU.out hc M.out).mono ?_; rintro e w' ⟨rfl, ⟨nd, rfl⟩⟩)
            go_returns
            exact ⟨rfl, ⟨_, rfl⟩⟩
          | false =>
            exfalso
            have h := HH.out
            have := of_decide_eq_false d1
            have := of_decide_eq_false d2
            have := of_decide_eq_false d3
            have := of_decide_eq_false d4
            rcases h with h | h | h | h | h
            · exact absurd h (by decide)
            · omega
            · omega
            · omega
            · omega

end Go.Proofs.Ytfmkjdbhijeejaa.Hand
