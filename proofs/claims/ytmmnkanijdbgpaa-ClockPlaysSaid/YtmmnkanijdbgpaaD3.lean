/- clock's Page, Frame, Remove; a clock that isn't there; the document's Frame. -/
import Derived.Test.YtmmnkanijdbgpaaD1
namespace Go.Proofs.Ytmmnkanijdbgpaa.Hand
set_option linter.unusedVariables false
set_option linter.unusedSimpArgs false
open Go.RowKit Go.Proofs.Ytmmnkanijdbgpaa.R Go.Proofs.YtmmnkanijdbgpaaW.PrintWords Go.Proofs.YtmmnkanijdbgpaaW.PrintLast Go.Proofs.YtmmnkanijdbgpaaW.PrintMore

/-- What a clock's cells may be. -/
structure GL (L : List Int) : Prop where
  len : L.length = 98
  lo : ∀ i, i < 96 → 0 ≤ L.getD i 0 ∧ L.getD i 0 ≤ 68719476736
  hand : 0 ≤ L.getD 96 0 ∧ L.getD 96 0 < 96
theorem inC_lt {L : List Int} {f : Int} (h : inC L f = true) : ∃ x : Nat, f = (x : Int) ∧ x < 96 ∧ 0 < L.getD x 0 := by
  unfold inC at h
  simp only [Bool.and_eq_true, decide_eq_true_eq] at h
  exact ⟨f.toNat, by omega, by omega, h.2.2⟩
theorem wm1 (q : Int) (h : 0 < q) (h2 : q ≤ 68719476736) : wrap64 (q - 1) = q - 1 := by unfold wrap64; omega
/-- What Page tells. -/
def pgV (L : List Int) (f : Int) : Int := if inC L f then L.getD f.toNat 0 - 1 else 0
set_option maxHeartbeats 8000000 in
set_option maxRecDepth 100000 in
theorem page_calls (g : Nat) (L : List Int) (hL : GL L) (f : Int) (w : World) (hb : CS w g L) : Calls Try.prog 13 #[.pointer (some ⟨g, 0, none⟩), .int .i64 f] w fun e w' => e = .returned (.tuple #[.int .i64 (pgV L f), .bool (inC L f)]) ∧ w' = w := by
  have hI := in_calls g L hL.len f w hb
  unfold pgV
  cases hi : inC L f with
  | false =>
    rw [hi] at hI
    replace hI := Aside0.mk hI
    clear hL hb hi
    go_enter Try.func13, Try.ntmps13
    go_wp2_with (go_at_call 23; refine hI.out.mono ?_; rintro e w2 ⟨rfl, rfl⟩)
    go_returns
    exact ⟨rfl, rfl⟩
  | true =>
    obtain ⟨x, rfl, hx, hq⟩ := inC_lt hi
    rw [hi] at hI
    have k := ints_cell hb x (by have := hL.len; omega)
    have hw := wm1 _ hq (hL.lo x hx).2
    have x0 : (0 : Int) ≤ (x : Int) := by omega
    have x1 : (x : Int) < 96 := by omega
    rw [if_pos rfl, Int.toNat_natCast]
    generalize L.getD x 0 = q at k hw hq ⊢
    replace hw := Aside0.mk hw
    replace hI := Aside0.mk hI
    replace hq := Aside0.mk hq
    clear hL hb hi
    go_enter Try.func13, Try.ntmps13
    go_wp2_with (go_at_call 23; refine hI.out.mono ?_; rintro e w2 ⟨rfl, rfl⟩)
    go_returns
    exact ⟨by first | (rw [hw.out]; rfl) | rfl, rfl⟩
/-- The first of some. -/
def fnd (q : Nat → Bool) : Nat → Nat → Int
  | 0, _ => -1
  | d + 1, i => if q i then (i : Int) else fnd q d (i + 1)
theorem fnd_ge (q : Nat → Bool) : ∀ d i, fnd q d i = -1 ∨ ∃ j : Nat, fnd q d i = (j : Int) ∧ i ≤ j ∧ j < i + d ∧ q j = true
  | 0, _ => .inl rfl
  | d + 1, i => by
    unfold fnd
    split
    · rename_i h
      exact .inr ⟨i, rfl, Nat.le_refl _, by omega, h⟩
    · rcases fnd_ge q d (i + 1) with h | ⟨j, h1, h2, h3, h4⟩
      · exact .inl h
      · exact .inr ⟨j, h1, by omega, by omega, h4⟩
def qC (L : List Int) (p : Int) (i : Nat) : Bool := inC L (i : Int) && (pgV L (i : Int) == p)
def frV (r : Int) : Int := if r < 0 then 0 else r
set_option maxHeartbeats 8000000 in
set_option maxRecDepth 100000 in
theorem frame_calls (g : Nat) (L : List Int) (hL : GL L) (p : Int) (w : World) (hb : CS w g L) : Calls Try.prog 14 #[.pointer (some ⟨g, 0, none⟩), .int .i64 p] w fun e w' => e = .returned (.tuple #[.int .i64 (frV (fnd (qC L p) 96 0)), .bool (decide (0 ≤ fnd (qC L p) 96 0))]) ∧ w' = w := by
  obtain ⟨r, hr⟩ : ∃ r, r = fnd (qC L p) 96 0 := ⟨_, rfl⟩
  rw [← hr]
  replace hb := Aside0.mk hb
  replace hL := Aside0.mk hL
  replace hr := Aside0.mk hr
  go_enter Try.func14, Try.ntmps14
  go_wp2
  go_loopg [9] 96 (fun kq v9 w' => ∃ (i : Nat), v9 = .int .i64 (i : Int) ∧ Aside0 (i + kq = 96) ∧ Aside0 (r = fnd (qC L p) kq i) ∧ Aside0 (w' = w))
  case atStart => exact ⟨0, rfl, ⟨by omega⟩, hr, ⟨rfl⟩⟩
  case round =>
    obtain ⟨i, rfl, HK, HF, HW⟩ := hrel
    obtain rfl := HW.out
    cases gk with
    | zero =>
      obtain rfl : i = 96 := by have := HK.out; omega
      obtain rfl : r = -1 := HF.out
      clear HF hr
      go_wp2
      go_returns
      exact ⟨rfl, rfl⟩
    | succ kk =>
      have hi : i < 96 := by have := HK.out; omega
      have e1 : decide ((i : Int) < 96) = true := decide_eq_true (by omega)
      have e2 : decide (i < 96) = true := decide_eq_true hi
      have hPg := page_calls g L hL.out (i : Int) wr hb.out
      have hF : r = if qC L p i then (i : Int) else fnd (qC L p) kk (i + 1) := HF.out
      have ws := Aside0.mk (w64s i (by omega))
      unfold qC at hF
      cases hI : inC L (i : Int) with
      | false =>
        rw [hI] at hPg hF
        have hF2 : r = fnd (qC L p) kk (i + 1) := hF
        replace hF2 := Aside0.mk hF2
        replace hPg := Aside0.mk hPg
        clear hF
        go_wp2_with (go_at_call 13; refine hPg.out.mono ?_; rintro e w2 ⟨rfl, rfl⟩)
        go_roundg kk
        case measure => omega
        case rel => exact ⟨i + 1, by first | rw [ws.out] | rfl, ⟨by have := HK.out; omega⟩, hF2, ⟨rfl⟩⟩
      | true =>
        rw [hI] at hPg hF
        generalize pgV L (i : Int) = v at hPg hF
        cases hv : (v == p) with
        | false =>
          rw [hv] at hF
          have hF2 : r = fnd (qC L p) kk (i + 1) := hF
          replace hF2 := Aside0.mk hF2
          replace hPg := Aside0.mk hPg
          clear hF
          go_wp2_with (go_at_call 13; refine hPg.out.mono ?_; rintro e w2 ⟨rfl, rfl⟩)
          go_roundg kk
          case measure => omega
          case rel => exact ⟨i + 1, by first | rw [ws.out] | rfl, ⟨by have := HK.out; omega⟩, hF2, ⟨rfl⟩⟩
        | true =>
          rw [hv] at hF
          have hF2 : r = (i : Int) := hF
          subst hF2
          have hr1 : frV (i : Int) = (i : Int) := by unfold frV; rw [if_neg (by omega)]
          have hr2 : decide (0 ≤ (i : Int)) = true := decide_eq_true (by omega)
          replace hPg := Aside0.mk hPg
          replace hr1 := Aside0.mk hr1
          replace hr2 := Aside0.mk hr2
          clear hF HF hr
          go_wp2_with (go_at_call 13; refine hPg.out.mono ?_; rintro e w2 ⟨rfl, rfl⟩)
          go_returns
          exact ⟨by rw [hr1.out, hr2.out]; rfl, rfl⟩
def remL (L : List Int) (f : Int) : List Int := if inC L f then (L.set f.toNat 0).set 97 (wrap64 (L.getD 97 0 - 1)) else L
set_option maxHeartbeats 8000000 in
set_option maxRecDepth 100000 in
theorem rem_calls (g : Nat) (L : List Int) (hL : L.length = 98) (f : Int) (w : World) (hb : CS w g L) : Calls Try.prog 15 #[.pointer (some ⟨g, 0, none⟩), .int .i64 f] w fun e w' => e = .returned (.bool (inC L f)) ∧ CS w' g (remL L f) ∧ Far (fun x => x = g) w w' := by
  have hI := in_calls g L hL f w hb
  unfold remL
  cases hi : inC L f with
  | false =>
    rw [hi] at hI
    replace hI := Aside0.mk hI
    replace hb := Aside0.mk hb
    clear hL hi
    go_enter Try.func15, Try.ntmps15
    go_wp2_with (go_at_call 23; refine hI.out.mono ?_; rintro e w2 ⟨rfl, rfl⟩)
    go_returns
    exact ⟨rfl, hb.out, Far.refl _ _⟩
  | true =>
    obtain ⟨x, rfl, hx, hq⟩ := inC_lt hi
    rw [hi] at hI
    have kx := ints_cell hb x (by omega)
    have k97 := ints_cell hb 97 (by omega)
    have fx := blk_frozen hb x
    have f97 := blk_frozen hb 97
    have hne : ¬ x = 97 := by omega
    have hne2 : ¬ (97 : Nat) = x := by omega
    have x0 : (0 : Int) ≤ (x : Int) := by omega
    have x1 : (x : Int) < 96 := by omega
    rw [if_pos rfl, Int.toNat_natCast]
    have h1 := ints_set hb x 0
    have h2 := ints_set h1 97 (wrap64 (L.getD 97 0 - 1))
    generalize L.getD 97 0 = q at k97 h2 ⊢
    generalize L.getD x 0 = q2 at kx hq
    replace hI := Aside0.mk hI
    replace hq := Aside0.mk hq
    replace h2 := Aside0.mk h2
    clear hL hb hi h1
    go_enter Try.func15, Try.ntmps15
    go_wp2_with (go_at_call 23; refine hI.out.mono ?_; rintro e w2 ⟨rfl, rfl⟩)
    go_returns
    exact ⟨rfl, h2.out, ((Far.refl _ _).set1 _ _).set1 _ _⟩

/-! a clock that isn't there -/
set_option maxHeartbeats 8000000 in
set_option maxRecDepth 100000 in
theorem in_nil (f : Int) (w : World) : Calls Try.prog 23 #[.pointer none, .int .i64 f] w fun e w' => e = .returned (.bool false) ∧ w' = w := by
  go_enter Try.func23, Try.ntmps23
  go_wp2
  go_returns
  exact ⟨rfl, rfl⟩
set_option maxHeartbeats 8000000 in
set_option maxRecDepth 100000 in
theorem page_nil (f : Int) (w : World) : Calls Try.prog 13 #[.pointer none, .int .i64 f] w fun e w' => e = .returned (.tuple #[.int .i64 0, .bool false]) ∧ w' = w := by
  go_enter Try.func13, Try.ntmps13
  go_wp2_with (go_at_call 23; refine (in_nil _ _).mono ?_; rintro e w2 ⟨rfl, rfl⟩)
  go_returns
  exact ⟨rfl, rfl⟩
set_option maxHeartbeats 8000000 in
set_option maxRecDepth 100000 in
theorem rem_nil (f : Int) (w : World) : Calls Try.prog 15 #[.pointer none, .int .i64 f] w fun e w' => e = .returned (.bool false) ∧ w' = w := by
  go_enter Try.func15, Try.ntmps15
  go_wp2_with (go_at_call 23; refine (in_nil _ _).mono ?_; rintro e w2 ⟨rfl, rfl⟩)
  go_returns
  exact ⟨rfl, rfl⟩
set_option maxHeartbeats 8000000 in
set_option maxRecDepth 100000 in
theorem add_nil (f p : Int) (w : World) : Calls Try.prog 8 #[.pointer none, .int .i64 f, .int .i64 p] w fun e w' => e = .returned (.bool false) ∧ w' = w := by
  go_enter Try.func8, Try.ntmps8
  go_wp2
  go_returns
  exact ⟨rfl, rfl⟩
set_option maxHeartbeats 8000000 in
set_option maxRecDepth 100000 in
theorem len_nil (w : World) : Calls Try.prog 12 #[.pointer none] w fun e w' => e = .returned (.int .i64 0) ∧ w' = w := by
  go_enter Try.func12, Try.ntmps12
  go_wp2
  go_returns
  exact ⟨rfl, rfl⟩
set_option maxHeartbeats 8000000 in
set_option maxRecDepth 100000 in
theorem hand_nil (w : World) : Calls Try.prog 9 #[.pointer none] w fun e w' => e = .returned (.int .i64 0) ∧ w' = w := by
  go_enter Try.func9, Try.ntmps9
  go_wp2
  go_returns
  exact ⟨rfl, rfl⟩
set_option maxHeartbeats 8000000 in
set_option maxRecDepth 100000 in
theorem frame_nil (p : Int) (w : World) : Calls Try.prog 14 #[.pointer none, .int .i64 p] w fun e w' => e = .returned (.tuple #[.int .i64 0, .bool false]) ∧ w' = w := by
  go_enter Try.func14, Try.ntmps14
  go_wp2
  go_loopg [9] 96 (fun kq v9 w' => ∃ (i : Nat), v9 = .int .i64 (i : Int) ∧ Aside0 (i + kq = 96) ∧ Aside0 (w' = w))
  case atStart => exact ⟨0, rfl, ⟨by omega⟩, ⟨rfl⟩⟩
  case round =>
    obtain ⟨i, rfl, HK, HW⟩ := hrel
    obtain rfl := HW.out
    cases gk with
    | zero =>
      obtain rfl : i = 96 := by have := HK.out; omega
      go_wp2
      go_returns
      exact ⟨rfl, rfl⟩
    | succ kk =>
      have hi : i < 96 := by have := HK.out; omega
      have e1 : decide ((i : Int) < 96) = true := decide_eq_true (by omega)
      have e2 : decide (i < 96) = true := decide_eq_true hi
      have ws := Aside0.mk (w64s i (by omega))
      go_wp2_with (go_at_call 13; refine (page_nil _ _).mono ?_; rintro e w2 ⟨rfl, rfl⟩)
      go_roundg kk
      case measure => omega
      case rel => exact ⟨i + 1, by first | rw [ws.out] | rfl, ⟨by have := HK.out; omega⟩, ⟨rfl⟩⟩
set_option maxHeartbeats 8000000 in
set_option maxRecDepth 100000 in
theorem round_nil (w : World) : Calls Try.prog 24 #[.pointer none, .slice none 0 0] w fun e w' => e = .returned (.slice none 0 0) ∧ w' = w := by
  go_enter Try.func24, Try.ntmps24
  go_wp2
  go_loopg [5, 8] 96 (fun kq v5 v8 w' => ∃ (i : Nat), v5 = .slice none 0 0 ∧ v8 = .int .i64 (i : Int) ∧ Aside0 (i + kq = 96) ∧ Aside0 (w' = w))
  case atStart => exact ⟨0, rfl, rfl, ⟨by omega⟩, ⟨rfl⟩⟩
  case round =>
    obtain ⟨i, rfl, rfl, HK, HW⟩ := hrel
    obtain rfl := HW.out
    cases gk with
    | zero =>
      obtain rfl : i = 96 := by have := HK.out; omega
      go_wp2
      go_returns
      exact ⟨rfl, rfl⟩
    | succ kk =>
      have hi : i < 96 := by have := HK.out; omega
      have e1 : decide ((i : Int) < 96) = true := decide_eq_true (by omega)
      have e2 : decide (i < 96) = true := decide_eq_true hi
      have hm : Int.tmod (i : Int) 96 = (i : Int) := by rw [Int.tmod_eq_emod_of_nonneg (by omega)]; omega
      have ws := Aside0.mk (w64s i (by omega))
      go_wp2_with (first | (go_at_call 9; refine (hand_nil _).mono ?_; rintro e w2 ⟨rfl, rfl⟩) | (go_at_call 23; refine (in_nil _ _).mono ?_; rintro e w2 ⟨rfl, rfl⟩))
      go_roundg kk
      case measure => omega
      case rel => exact ⟨i + 1, rfl, by first | rw [ws.out] | rfl, ⟨by have := HK.out; omega⟩, ⟨rfl⟩⟩
set_option maxHeartbeats 8000000 in
set_option maxRecDepth 100000 in
theorem turn_nilc (w : World) : Calls Try.prog 10 #[.pointer none, .nilFunc, .slice none 0 0] w fun e w' => e = .returned (.tuple #[.int .i64 0, .bool false]) ∧ w' = w := by
  go_enter Try.func10, Try.ntmps10
  go_wp2_with (go_at_call 24; refine (round_nil _).mono ?_; rintro e w2 ⟨rfl, rfl⟩)
  go_returns
  exact ⟨rfl, rfl⟩

/-! the document's Frame -/
def qR (P : List Int) (p : Int) (i : Nat) : Bool := decide (0 ≤ P.getD i 0) && (P.getD i 0 == p)
set_option maxHeartbeats 8000000 in
set_option maxRecDepth 100000 in
theorem rframe_calls (P : List Int) (hP : P.length = 97) (p : Int) (w : World) : Calls Try.prog 21 #[.agg (ints P), .int .i64 p] w fun e w' => e = .returned (.int .i64 (fnd (qR P p) 96 0)) ∧ Below w.heap.size w w' := by
  have hp0 : PS (w.alloc (.cells (ints P) 41 (0, 0))) w.heap.size P := blk_new w _
  have hb := below_alloc (Below.refl _ w) (.cells (ints P) 41 (0, 0))
  have hPn : ¬ ints P = #[] := by
    intro e
    have := congrArg Array.size e
    rw [ints_size, hP] at this
    revert this
    decide
  obtain ⟨w1, hw1⟩ : ∃ w1, w1 = w.alloc (.cells (ints P) 41 (0, 0)) := ⟨_, rfl⟩
  obtain ⟨r, hr⟩ : ∃ r, r = fnd (qR P p) 96 0 := ⟨_, rfl⟩
  rw [← hr]
  replace hr := Aside0.mk hr
  replace hp0 := Aside0.mk hp0
  replace hb := Aside0.mk hb
  replace hP := Aside0.mk hP
  go_enter Try.func21, Try.ntmps21
  go_upto_region 1 with (fail)
  rw [← hw1]
  rw [← hw1] at hp0 hb
  clear hw1 hPn
  go_wp2
  go_loopg [5] 96 (fun kq v5 w' => ∃ (i : Nat), v5 = .int .i64 (i : Int) ∧ Aside0 (i + kq = 96) ∧ Aside0 (r = fnd (qR P p) kq i) ∧ Aside0 (w' = w1))
  case atStart => exact ⟨0, rfl, ⟨by omega⟩, hr, ⟨rfl⟩⟩
  case round =>
    obtain ⟨i, rfl, HK, HF, HW⟩ := hrel
    obtain rfl := HW.out
    cases gk with
    | zero =>
      obtain rfl : i = 96 := by have := HK.out; omega
      obtain rfl : r = -1 := HF.out
      clear HF hr
      go_wp2
      go_returns
      exact ⟨rfl, hb.out⟩
    | succ kk =>
      have hi : i < 96 := by have := HK.out; omega
      have e1 : decide ((i : Int) < 96) = true := decide_eq_true (by omega)
      have e2 : decide (i < 96) = true := decide_eq_true hi
      have i0 : (0 : Int) ≤ (i : Int) := by omega
      have i1 : (i : Int) < 96 := by omega
      have hF : r = if qR P p i then (i : Int) else fnd (qR P p) kk (i + 1) := HF.out
      have ws := Aside0.mk (w64s i (by omega))
      have kx := ints_cell hp0.out i (by have := hP.out; omega)
      unfold qR at hF
      generalize P.getD i 0 = v at kx hF
      by_cases h0 : 0 ≤ v
      · have d0 : decide (0 ≤ v) = true := decide_eq_true h0
        have d1 : decide (v ≥ 0) = true := decide_eq_true h0
        rw [d0] at hF
        cases hv : (v == p) with
        | false =>
          rw [hv] at hF
          have hF2 : r = fnd (qR P p) kk (i + 1) := hF
          replace hF2 := Aside0.mk hF2
          clear hF
          go_wp2
          go_roundg kk
          case measure => omega
          case rel => exact ⟨i + 1, by first | rw [ws.out] | rfl, ⟨by have := HK.out; omega⟩, hF2, ⟨rfl⟩⟩
        | true =>
          rw [hv] at hF
          have hF2 : r = (i : Int) := hF
          subst hF2
          clear hF HF hr
          go_wp2
          go_returns
          exact ⟨rfl, hb.out⟩
      · have d0 : decide (0 ≤ v) = false := decide_eq_false h0
        have d1 : decide (v ≥ 0) = false := decide_eq_false h0
        rw [d0] at hF
        have hF2 : r = fnd (qR P p) kk (i + 1) := hF
        replace hF2 := Aside0.mk hF2
        clear hF
        go_wp2
        go_roundg kk
        case measure => omega
        case rel => exact ⟨i + 1, by first | rw [ws.out] | rfl, ⟨by have := HK.out; omega⟩, hF2, ⟨rfl⟩⟩

end Go.Proofs.Ytmmnkanijdbgpaa.Hand
