/- tlb's Find, walked by hand. -/
import Derived.Test.YtfmkjdbhijeejaaT1
namespace Go.Proofs.Ytfmkjdbhijeejaa.Hand
set_option linter.unusedVariables false
set_option linter.unusedSimpArgs false
open Go.RowKit Go.Proofs.Ytfmkjdbhijeejaa.R Go.Proofs.YtfmkjdbhijeejaaW.PrintWords Go.Proofs.YtfmkjdbhijeejaaW.PrintMore

/-- A literal's row, newly made, reads as its numbers. -/
theorem lit_C (w : World) (k : IntKind) (xs : List Int) (cs : Array Value) (e : TypeId) (fr : Nat × Nat) (hcs : cs = (xs.map (Value.int k)).toArray) (hl : xs.length < 1000) : Kd.C (Kd.int k) (w.alloc (.cells cs e fr)) (some ⟨w.heap.size, 0, none⟩) xs.length xs := by
  subst hcs
  refine ⟨rfl, by omega, fun _ => ⟨_, rfl, fun j p hj => ⟨[.int k p], rfl, rfl, fun i u hu => ?_⟩⟩⟩
  have hi : i = 0 := by
    have := (List.getElem?_eq_some_iff.1 hu).1
    simp at this
    exact this
  subst hi
  simp at hu
  subst hu
  have hn : (w.alloc (.cells (xs.map (Value.int k)).toArray e fr)).heap[w.heap.size]? = some (.cells (xs.map (Value.int k)).toArray e fr) := blk_new w _
  have : (⟨w.heap.size, 0, none⟩ : Addr).add (j * 1 + 0) = ⟨w.heap.size, j, none⟩ := by
    by_cases h : j = 0 <;> simp [Addr.add, h]
  show World.cell? _ ((⟨w.heap.size, 0, none⟩ : Addr).add (j * 1 + 0)) = _
  rw [this]
  unfold World.cell?
  rw [hn]
  simp [hj]

def findOk (L : List Int) (page : Nat) (use : Int) : Prop := (use = 1 ∨ use = 2 ∨ use = 4) ∧ page < 68719476736 ∧ L[page % 16 * 3]? = some ((page + 1 : Nat) : Int) ∧ (Go.bits .and .i64 ((L[page % 16 * 3 + 2]?).getD 0) use == 0) = false

theorem mask_one (use : Int) : maskN [use] 0 = if use = 1 ∨ use = 2 ∨ use = 4 then (Go.bits .or .i64 0 use, true) else (0, false) := by
  simp only [maskN]

theorem or_zero (use : Int) (h : use = 1 ∨ use = 2 ∨ use = 4) : Go.bits .or .i64 0 use = use := by
  rcases h with rfl | rfl | rfl <;> decide +kernel

theorem mask1_calls (use : Int) (w : World) (r : Int) (b : Bool) (h : maskN [use] 0 = (r, b)) : Calls Try.prog 22 #[.slice (some ⟨w.heap.size, 0, none⟩) 1 1] (w.alloc (.cells #[.int .i64 use] 3 (0, 0))) fun e w' => e = .returned (.tuple #[.int .i64 r, .bool b]) ∧ Drawn0 (w.alloc (.cells #[.int .i64 use] 3 (0, 0))) w' := by
  have m := mask_some [use] (by simp)
  rw [h] at m
  exact tlb_mask.calls 2 _ 1 [use] r b _ (lit_C w .i64 [use] _ _ _ rfl (by simp)) (Nat.le_refl _) m

set_option maxHeartbeats 8000000 in
set_option maxRecDepth 100000 in
theorem find_yes (g : Nat) (L : List Int) (page : Nat) (use : Int) (w : World) (hb : w.heap[g]? = some (.cells (ints L) 53 (0, 0))) (hL : L.length = 50) (hf : findOk L page use) (hs : Int) (hhs : L[48]? = some hs) (fr : Int) (hfr : L[page % 16 * 3 + 1]? = some fr) :
    Calls Try.prog 8 #[.pointer (some ⟨g, 0, none⟩), .int .i64 (page : Int), .int .i64 use] w fun e w' => e = .returned (.tuple #[.int .i64 fr, .bool true]) ∧ w'.heap[g]? = some (.cells (ints (L.set 48 (wrap64 (hs + 1)))) 53 (0, 0)) ∧ Far (fun x => x = g) w w' := by
  obtain ⟨hu, hp, hq, hand⟩ := hf
  have M := Aside0.mk (mask1_calls use w use true (by rw [mask_one, if_pos hu, or_zero use hu]))
  have H := Aside0.mk hb
  have o16 : page % 16 < 16 := Nat.mod_lt _ (by decide)
  obtain ⟨s, hs2⟩ : ∃ q, L[page % 16 * 3 + 2]? = some q := ⟨_, List.getElem?_eq_getElem (by omega)⟩
  rw [hs2, Option.getD_some] at hand
  obtain ⟨q, eq⟩ : ∃ q : Int, q = ((page + 1 : Nat) : Int) := ⟨_, rfl⟩
  rw [← eq] at hq
  have Q := Aside0.mk hq
  have F := Aside0.mk hfr
  have S := Aside0.mk hs2
  have HS := Aside0.mk hhs
  have d1 : decide ((page : Int) ≥ 0) = true := decide_eq_true (by omega)
  have d2 : decide ((page : Int) < 68719476736) = true := decide_eq_true (by omega)
  have ew : (q == wrap64 ((page : Int) + 1)) = true := by rw [beq_iff_eq]; unfold wrap64; omega
  have hne : (Go.bits .and .i64 s use != 0) = true := by unfold bne; rw [hand]; rfl
  have HP := Aside0.mk hp
  clear hb hu hp hq hfr hs2 hhs o16 eq hL
  go_enter Try.func8, Try.ntmps8
  go_upto_region 5 with (go_at_call 22; with_reducible refine M.out.mono ?_; rintro e w' ⟨rfl, ⟨nd, rfl⟩⟩)
  have hb2 := blk_drewN (blk_alloc H.out (.cells #[.int .i64 use] 3 (0, 0))) nd
  have c1 := ints_cell hb2 F.out
  have c2 := ints_cell hb2 S.out
  have c3 := ints_cell hb2 HS.out
  have fz := blk_frozen hb2 48
  replace hb2 := Aside0.mk hb2
  go_wp2_with (first | (go_at_call 23; with_reducible refine (at_calls g page _ HP.out).mono ?_; rintro e w' ⟨rfl, rfl⟩) | (go_at_call 24; with_reducible refine (has_calls g _ L _ _ _ hb2.out Q.out).mono ?_; rintro e w' ⟨rfl, rfl⟩))
  go_returns
  exact ⟨rfl, ints_set hb2.out 48 (wrap64 (hs + 1)), by repeat (with_reducible first | exact Far.refl _ _ | refine Far.set1 ?_ _ _ | refine Far.drewN ?_ _ | refine Far.alloc ?_ _)⟩

set_option maxHeartbeats 8000000 in
set_option maxRecDepth 100000 in
theorem find_no1 (g : Nat) (L : List Int) (page use : Int) (w : World) (hb : w.heap[g]? = some (.cells (ints L) 53 (0, 0))) (hf : ¬ (use = 1 ∨ use = 2 ∨ use = 4) ∨ page < 0 ∨ page ≥ 68719476736) (ms : Int) (hms : L[49]? = some ms) :
    Calls Try.prog 8 #[.pointer (some ⟨g, 0, none⟩), .int .i64 page, .int .i64 use] w fun e w' => e = .returned (.tuple #[.int .i64 0, .bool false]) ∧ w'.heap[g]? = some (.cells (ints (L.set 49 (wrap64 (ms + 1)))) 53 (0, 0)) ∧ Far (fun x => x = g) w w' := by
  have H := Aside0.mk hb
  have HS := Aside0.mk hms
  have HF := Aside0.mk hf
  clear hb hms hf
  obtain ⟨⟨r, ok⟩, hr⟩ : ∃ x, maskN [use] 0 = x := ⟨_, rfl⟩
  have hok : ok = false → ¬ (use = 1 ∨ use = 2 ∨ use = 4) := by
    intro h0 hu
    rw [mask_one, if_pos hu] at hr
    injection hr with _ h2
    rw [h0] at h2
    exact absurd h2 (by decide)
  have hok2 : ok = true → (use = 1 ∨ use = 2 ∨ use = 4) := by
    intro h0
    rw [mask_one] at hr
    split at hr
    · assumption
    · injection hr with _ h2
      rw [h0] at h2
      exact absurd h2 (by decide)
  have M := Aside0.mk (mask1_calls use w r ok hr)
  have HO := Aside0.mk hok2
  clear hr hok hok2
  obtain ⟨b1, d1⟩ : ∃ b, decide (page ≥ 0) = b := ⟨_, rfl⟩
  obtain ⟨b2, d2⟩ : ∃ b, decide (page < 68719476736) = b := ⟨_, rfl⟩
  have fin : ok = false ∨ b1 = false ∨ b2 = false := by
    cases ok with
    | false => exact .inl rfl
    | true =>
      right
      have h := HF.out
      have hu := HO.out rfl
      rcases h with h | h | h
      · exact absurd hu h
      · left; rw [← d1]; exact decide_eq_false (by omega)
      · right; rw [← d2]; exact decide_eq_false (by omega)
  have FIN := Aside0.mk fin
  clear fin
  cases ok with
  | false =>
    go_enter Try.func8, Try.ntmps8
    have c3 : ∀ nd, ((w.alloc (.cells #[.int .i64 use] 3 (0, 0))).drewN nd).cell? ⟨g, 49, none⟩ = some (.int .i64 ms) := fun nd => ints_cell (blk_drewN (blk_alloc H.out _) nd) HS.out
    have fz : ∀ nd, ((w.alloc (.cells #[.int .i64 use] 3 (0, 0))).drewN nd).frozen? ⟨g, 49, none⟩ = false := fun nd => blk_frozen (blk_drewN (blk_alloc H.out _) nd) 49
    go_wp2_with (go_at_call 22; with_reducible refine M.out.mono ?_; rintro e w' ⟨rfl, ⟨nd, rfl⟩⟩)
    go_returns
    exact ⟨rfl, ints_set (blk_drewN (blk_alloc H.out _) _) 49 (wrap64 (ms + 1)), by repeat (with_reducible first | exact Far.refl _ _ | refine Far.set1 ?_ _ _ | refine Far.drewN ?_ _ | refine Far.alloc ?_ _)⟩
  | true => cases b1 with
    | false =>
      go_enter Try.func8, Try.ntmps8
      have c3 : ∀ nd, ((w.alloc (.cells #[.int .i64 use] 3 (0, 0))).drewN nd).cell? ⟨g, 49, none⟩ = some (.int .i64 ms) := fun nd => ints_cell (blk_drewN (blk_alloc H.out _) nd) HS.out
      have fz : ∀ nd, ((w.alloc (.cells #[.int .i64 use] 3 (0, 0))).drewN nd).frozen? ⟨g, 49, none⟩ = false := fun nd => blk_frozen (blk_drewN (blk_alloc H.out _) nd) 49
      go_wp2_with (go_at_call 22; with_reducible refine M.out.mono ?_; rintro e w' ⟨rfl, ⟨nd, rfl⟩⟩)
      go_returns
      exact ⟨rfl, ints_set (blk_drewN (blk_alloc H.out _) _) 49 (wrap64 (ms + 1)), by repeat (with_reducible first | exact Far.refl _ _ | refine Far.set1 ?_ _ _ | refine Far.drewN ?_ _ | refine Far.alloc ?_ _)⟩
    | true => cases b2 with
      | false =>
        go_enter Try.func8, Try.ntmps8
        have c3 : ∀ nd, ((w.alloc (.cells #[.int .i64 use] 3 (0, 0))).drewN nd).cell? ⟨g, 49, none⟩ = some (.int .i64 ms) := fun nd => ints_cell (blk_drewN (blk_alloc H.out _) nd) HS.out
        have fz : ∀ nd, ((w.alloc (.cells #[.int .i64 use] 3 (0, 0))).drewN nd).frozen? ⟨g, 49, none⟩ = false := fun nd => blk_frozen (blk_drewN (blk_alloc H.out _) nd) 49
        go_wp2_with (go_at_call 22; with_reducible refine M.out.mono ?_; rintro e w' ⟨rfl, ⟨nd, rfl⟩⟩)
        go_returns
        exact ⟨rfl, ints_set (blk_drewN (blk_alloc H.out _) _) 49 (wrap64 (ms + 1)), by repeat (with_reducible first | exact Far.refl _ _ | refine Far.set1 ?_ _ _ | refine Far.drewN ?_ _ | refine Far.alloc ?_ _)⟩
      | true =>
        exfalso
        rcases FIN.out with h | h | h <;> exact absurd h (by decide)

set_option maxHeartbeats 8000000 in
set_option maxRecDepth 100000 in
theorem find_no2 (g : Nat) (L : List Int) (page : Nat) (use : Int) (w : World) (hb : w.heap[g]? = some (.cells (ints L) 53 (0, 0))) (hL : L.length = 50) (hu : use = 1 ∨ use = 2 ∨ use = 4) (hp : page < 68719476736) (hf : ¬ findOk L page use) (ms : Int) (hms : L[49]? = some ms) :
    Calls Try.prog 8 #[.pointer (some ⟨g, 0, none⟩), .int .i64 (page : Int), .int .i64 use] w fun e w' => e = .returned (.tuple #[.int .i64 0, .bool false]) ∧ w'.heap[g]? = some (.cells (ints (L.set 49 (wrap64 (ms + 1)))) 53 (0, 0)) ∧ Far (fun x => x = g) w w' := by
  have M := Aside0.mk (mask1_calls use w use true (by rw [mask_one, if_pos hu, or_zero use hu]))
  have H := Aside0.mk hb
  have o16 : page % 16 < 16 := Nat.mod_lt _ (by decide)
  obtain ⟨s, hs2⟩ : ∃ q, L[page % 16 * 3 + 2]? = some q := ⟨_, List.getElem?_eq_getElem (by omega)⟩
  obtain ⟨q, hq⟩ : ∃ q, L[page % 16 * 3]? = some q := ⟨_, List.getElem?_eq_getElem (by omega)⟩
  obtain ⟨b, ew⟩ : ∃ b, (q == wrap64 ((page : Int) + 1)) = b := ⟨_, rfl⟩
  obtain ⟨b', hand⟩ : ∃ b, (Go.bits .and .i64 s use == 0) = b := ⟨_, rfl⟩
  have fin : b = false ∨ b' = true := by
    cases b with
    | false => exact .inl rfl
    | true => cases b' with
      | true => exact .inr rfl
      | false =>
        exfalso
        refine hf ⟨hu, hp, ?_, ?_⟩
        · rw [hq]
          have := beq_iff_eq.mp ew
          refine congrArg some ?_
          rw [this]; unfold wrap64; omega
        · rw [hs2]; exact hand
  have hne : (Go.bits .and .i64 s use != 0) = !b' := by unfold bne; rw [hand]
  have d1 : decide ((page : Int) ≥ 0) = true := decide_eq_true (by omega)
  have d2 : decide ((page : Int) < 68719476736) = true := decide_eq_true (by omega)
  have Q := Aside0.mk hq
  have S := Aside0.mk hs2
  have HS := Aside0.mk hms
  have HP := Aside0.mk hp
  have FIN := Aside0.mk fin
  clear hb hu hp hq hs2 hms o16 hf fin hL
  cases b with
  | false =>
    go_enter Try.func8, Try.ntmps8
    go_upto_region 5 with (go_at_call 22; with_reducible refine M.out.mono ?_; rintro e w' ⟨rfl, ⟨nd, rfl⟩⟩)
    have hb2 := blk_drewN (blk_alloc H.out (.cells #[.int .i64 use] 3 (0, 0))) nd
    have c2 := ints_cell hb2 S.out
    have c3 := ints_cell hb2 HS.out
    have fz := blk_frozen hb2 49
    replace hb2 := Aside0.mk hb2
    go_wp2_with (first | (go_at_call 23; with_reducible refine (at_calls g page _ HP.out).mono ?_; rintro e w' ⟨rfl, rfl⟩) | (go_at_call 24; with_reducible refine (has_calls g _ L _ _ _ hb2.out Q.out).mono ?_; rintro e w' ⟨rfl, rfl⟩))
    go_returns
    exact ⟨rfl, ints_set hb2.out 49 (wrap64 (ms + 1)), by repeat (with_reducible first | exact Far.refl _ _ | refine Far.set1 ?_ _ _ | refine Far.drewN ?_ _ | refine Far.alloc ?_ _)⟩
  | true => cases b' with
    | true =>
      replace hne : (Go.bits .and .i64 s use != 0) = false := hne
      go_enter Try.func8, Try.ntmps8
      go_upto_region 5 with (go_at_call 22; with_reducible refine M.out.mono ?_; rintro e w' ⟨rfl, ⟨nd, rfl⟩⟩)
      have hb2 := blk_drewN (blk_alloc H.out (.cells #[.int .i64 use] 3 (0, 0))) nd
      have c2 := ints_cell hb2 S.out
      have c3 := ints_cell hb2 HS.out
      have fz := blk_frozen hb2 49
      replace hb2 := Aside0.mk hb2
      go_wp2_with (first | (go_at_call 23; with_reducible refine (at_calls g page _ HP.out).mono ?_; rintro e w' ⟨rfl, rfl⟩) | (go_at_call 24; with_reducible refine (has_calls g _ L _ _ _ hb2.out Q.out).mono ?_; rintro e w' ⟨rfl, rfl⟩))
      go_returns
      exact ⟨rfl, ints_set hb2.out 49 (wrap64 (ms + 1)), by repeat (with_reducible first | exact Far.refl _ _ | refine Far.set1 ?_ _ _ | refine Far.drewN ?_ _ | refine Far.alloc ?_ _)⟩
    | false =>
      exfalso
      rcases FIN.out with h | h <;> exact absurd h (by decide)

end Go.Proofs.Ytfmkjdbhijeejaa.Hand
