/- TlbTrue: what is kept of one page, deed by deed. No walk. -/
import Derived.Test.YtfmkjdbhijeejaaT4
import Derived.Test.YtfmkjdbhijeejaaT5
namespace Go.Proofs.Ytfmkjdbhijeejaa.Hand
set_option linter.unusedVariables false
set_option linter.unusedSimpArgs false
open Go.RowKit Go.Proofs.Ytfmkjdbhijeejaa.R Go.Proofs.YtfmkjdbhijeejaaW.PrintWords Go.Proofs.YtfmkjdbhijeejaaW.PrintMore

theorem deed_at {w : World} {A : Option Addr} {l : List S36} (hC : Kd.C k36 w A l.length l) (i : Nat) (hi : i < l.length) :
    ∃ ad A3 c3 A4 c4, A = some ad ∧ (∀ W, Below w.heap.size w W → W.cell? (ad.add (i * 5)) = some (.int .i64 l[i].f0) ∧ W.cell? ⟨(ad.add (i * 5)).block, (ad.add (i * 5)).off + 1, none⟩ = some (.int .i64 l[i].f1)
      ∧ W.cell? ⟨(ad.add (i * 5)).block, (ad.add (i * 5)).off + 2, none⟩ = some (.int .i64 l[i].f2) ∧ W.cell? ⟨(ad.add (i * 5)).block, (ad.add (i * 5)).off + 3, none⟩ = some (.slice A3 l[i].f3.length c3) ∧ W.cell? ⟨(ad.add (i * 5)).block, (ad.add (i * 5)).off + 4, none⟩ = some (.slice A4 l[i].f4.length c4))
      ∧ l[i].f3.length ≤ c3 ∧ (∀ W, Below w.heap.size w W → Kd.C (Kd.int .i64) W A3 l[i].f3.length l[i].f3) ∧ l[i].f4.length ≤ c4 ∧ (∀ W, Below w.heap.size w W → Kd.C (Kd.int .i64) W A4 l[i].f4.length l[i].f4) := by
  have e : rd_T36 l (i : Int) = l[i] := by unfold rd_T36; simp [hi]
  obtain ⟨ad, A3, c3, A4, c4, eA, k0, k1, k2, k3, k4, l3, g3, l4, g4⟩ := at_T36 hC (i : Int) (by omega) (by omega)
  rw [e] at k0 k1 k2 k3 k4 l3 g3 l4 g4
  refine ⟨ad, A3, c3, A4, c4, eA, fun W hW => ?_, l3, fun W hW => Kd.C_below g3 hW, l4, fun W hW => Kd.C_below g4 hW⟩
  have hb : (ad.add (i * 5)).block < w.heap.size := World.block_lt_of_cell? w _ k0
  exact ⟨(hW.cell hb).trans k0, (hW.cell (p := ⟨_, _, none⟩) hb).trans k1, (hW.cell (p := ⟨_, _, none⟩) hb).trans k2, (hW.cell (p := ⟨_, _, none⟩) hb).trans k3, (hW.cell (p := ⟨_, _, none⟩) hb).trans k4⟩

/-! great -/
theorem great_l0 (l : List S36) (hl : l.length < 18446744073709551616) (d : Nat) : ∀ (k i : Nat), i ≤ l.length → i ≤ 200 → min l.length 200 - i = d → 2 * d + 3 ≤ k →
    ∃ b, gunnylaw34_great.l0 k l (i : Int) = some b ∧ (b = false → l.length ≤ 100 ∧ ∀ j (hj : j < l.length), i ≤ j → l[j].f3.length ≤ 20 ∧ l[j].f4.length ≤ 40) := by
  induction d with
  | zero =>
    intro k i h1 h2 hd hk
    obtain ⟨k, rfl⟩ : ∃ m, k = m + 2 := ⟨k - 2, by omega⟩
    have e : gunnylaw34_great.l0 (k + 2) l (i : Int) = some (decide ((l.length : Int) > 100)) := by
      simp only [gunnylaw34_great.l0]
      by_cases h : (i : Int) < (l.length : Int)
      · rw [if_pos h, decide_eq_false (by omega)]
        simp only [gunnylaw34_great.j1, Bool.false_eq_true, if_false]
      · rw [if_neg h]
        simp only [gunnylaw34_great.j1, Bool.false_eq_true, if_false]
    refine ⟨_, e, fun hb => ?_⟩
    have := of_decide_eq_false hb
    exact ⟨by omega, fun j hj hij => by omega⟩
  | succ d ih =>
    intro k i h1 h2 hd hk
    obtain ⟨q, rfl⟩ : ∃ m, k = m + 2 := ⟨k - 2, by omega⟩
    have hi : i < l.length := by omega
    have er : rd_T36 l (i : Int) = l[i] := by unfold rd_T36; simp [hi]
    obtain ⟨b, e, hb⟩ := ih q (i + 1) (by omega) (by omega) (by omega) (by omega)
    have e1 : gunnylaw34_great.l0 (q + 2) l (i : Int) = if ((l[i].f3.length : Nat) : Int) > 20 then some true else if ((l[i].f4.length : Nat) : Int) > 40 then some true else some b := by
      obtain ⟨q1, hq1⟩ : ∃ q1, q1 = q + 1 := ⟨_, rfl⟩
      rw [show q + 2 = q1 + 1 by omega]
      simp only [gunnylaw34_great.l0]
      rw [if_pos (by omega), decide_eq_true (by omega), hq1]
      simp only [gunnylaw34_great.j1, if_true]
      rw [if_pos (by omega), if_pos (by omega), er, w64s i (by omega), e]
    by_cases h3 : ((l[i].f3.length : Nat) : Int) > 20
    · rw [if_pos h3] at e1
      exact ⟨true, e1, fun h => absurd h (by decide)⟩
    · by_cases h4 : ((l[i].f4.length : Nat) : Int) > 40
      · rw [if_neg h3, if_pos h4] at e1
        exact ⟨true, e1, fun h => absurd h (by decide)⟩
      · rw [if_neg h3, if_neg h4] at e1
        refine ⟨b, e1, fun h => ?_⟩
        obtain ⟨x, y⟩ := hb h
        refine ⟨x, fun j hj hij => ?_⟩
        by_cases hji : j = i
        · subst hji; omega
        · exact y j hj (by omega)
theorem great_some (l : List S36) (hl : l.length < 18446744073709551616) : ∃ b, gunnylaw34_great.f 500 l = some b ∧ (b = false → l.length ≤ 100 ∧ ∀ j (hj : j < l.length), l[j].f3.length ≤ 20 ∧ l[j].f4.length ≤ 40) := by
  obtain ⟨b, e, hb⟩ := great_l0 l hl (min l.length 200) 500 0 (by omega) (by omega) (by omega) (by omega)
  exact ⟨b, e, fun h => ⟨(hb h).1, fun j hj => (hb h).2 j hj (by omega)⟩⟩

/-! one page's keeping -/
theorem or_lt (a b : Nat) (ha : a < 8) (hb : b < 8) : ∃ c : Nat, c < 8 ∧ Go.bits .or .i64 (a : Int) (b : Int) = (c : Int) ∧ ∀ u : Int, (u = 1 ∨ u = 2 ∨ u = 4) → ((Go.bits .and .i64 (c : Int) u == 0) = false ↔ (Go.bits .and .i64 (a : Int) u == 0) = false ∨ (Go.bits .and .i64 (b : Int) u == 0) = false) := by
  have key : ∀ a : Fin 8, ∀ b : Fin 8, Go.bits .or .i64 ((a.val : Nat) : Int) ((b.val : Nat) : Int) = ((Nat.lor a.val b.val : Nat) : Int) ∧ Nat.lor a.val b.val < 8 ∧ (∀ u : Fin 3, ((Go.bits .and .i64 ((Nat.lor a.val b.val : Nat) : Int) ((2 ^ u.val : Nat) : Int) == 0) = false ↔ (Go.bits .and .i64 ((a.val : Nat) : Int) ((2 ^ u.val : Nat) : Int) == 0) = false ∨ (Go.bits .and .i64 ((b.val : Nat) : Int) ((2 ^ u.val : Nat) : Int) == 0) = false)) := by
    decide +kernel
  obtain ⟨h1, h2, h3⟩ := key ⟨a, ha⟩ ⟨b, hb⟩
  refine ⟨Nat.lor a b, h2, h1, fun u hu => ?_⟩
  rcases hu with rfl | rfl | rfl
  · exact h3 0
  · exact h3 1
  · exact h3 2
theorem and_self (u v : Int) (hu : u = 1 ∨ u = 2 ∨ u = 4) (hv : v = 1 ∨ v = 2 ∨ v = 4) : (Go.bits .and .i64 v u == 0) = false ↔ v = u := by
  rcases hu with rfl | rfl | rfl <;> rcases hv with rfl | rfl | rfl <;> decide +kernel
/-- A mask tells just the uses that are told. -/
theorem maskN_uses (u : List Int) : ∀ (m : Nat) (r : Int), m < 8 → maskN u (m : Int) = (r, true) → ∃ c : Nat, c < 8 ∧ r = (c : Int) ∧ ∀ x : Int, (x = 1 ∨ x = 2 ∨ x = 4) → ((Go.bits .and .i64 (c : Int) x == 0) = false ↔ (Go.bits .and .i64 (m : Int) x == 0) = false ∨ x ∈ u) := by
  induction u with
  | nil =>
    intro m r hm h
    injection h with h1 _
    exact ⟨m, hm, h1.symm, fun x _ => by simp⟩
  | cons y t ih =>
    intro m r hm h
    simp only [maskN] at h
    split at h
    · rename_i hy
      obtain ⟨yn, rfl⟩ : ∃ yn : Nat, y = (yn : Int) := ⟨y.toNat, by omega⟩
      obtain ⟨c, hc, ec, hcu⟩ := or_lt m yn hm (by omega)
      rw [ec] at h
      obtain ⟨c2, h2, e2, hu2⟩ := ih c r hc h
      refine ⟨c2, h2, e2, fun x hx => ?_⟩
      rw [hu2 x hx, hcu x hx, and_self x _ hx hy, List.mem_cons]
      constructor
      · rintro ((h | h) | h)
        · exact .inl h
        · exact .inr (.inl h.symm)
        · exact .inr (.inr h)
      · rintro (h | h | h)
        · exact .inl (.inl h)
        · exact .inl (.inr h.symm)
        · exact .inr h
    · injection h with _ h2
      exact absurd h2 (by decide)

/-- The cells of uses are masks; what is there of the page is what was told. -/
structure InvT (L : List Int) (page use frame : Int) (noted : Bool) : Prop where
  len : L.length = 50
  small : ∀ j, j < 16 → ∃ m : Nat, m < 8 ∧ L[j * 3 + 2]? = some (m : Int)
  kept : (use = 1 ∨ use = 2 ∨ use = 4) → 0 ≤ page → page < 68719476736 → L[page.toNat % 16 * 3]? = some (page + 1) → L[page.toNat % 16 * 3 + 1]? = some frame ∧ ((Go.bits .and .i64 ((L[page.toNat % 16 * 3 + 2]?).getD 0) use == 0) = false → noted = true)

theorem InvT.start (page use : Int) (b : Bool) : InvT zeros page use (-1) b := by
  have z : ∀ i, i < 50 → zeros[i]? = some 0 := fun i hi => by unfold zeros; rw [List.getElem?_replicate, if_pos hi]
  refine ⟨by decide +kernel, fun j hj => ⟨0, by omega, z _ (by omega)⟩, fun _ h0 _ hh => ?_⟩
  have : page.toNat % 16 < 16 := Nat.mod_lt _ (by decide)
  rw [z _ (by omega)] at hh
  have := Option.some.inj hh
  omega

/-- A note that is taken. -/
theorem InvT.note {L : List Int} {page use frame : Int} {noted : Bool} (h : InvT L page use frame noted) (dp : Nat) (df : Int) (us : List Int) (m : Int) (hm : maskN us 0 = (m, true)) (noted' : Bool)
    (hn : (dp : Int) = page → (df = frame ∧ noted = true ∨ use ∈ us) → noted' = true) :
    InvT (noteL L dp df m) page use (if (dp : Int) = page then df else frame) (if (dp : Int) = page then noted' else noted) := by
  have o16 : dp % 16 < 16 := Nat.mod_lt _ (by decide)
  obtain ⟨c, hc, ec, hcu⟩ := maskN_uses us 0 m (by omega) hm
  have zero_use : ∀ x : Int, (x = 1 ∨ x = 2 ∨ x = 4) → ¬ ((Go.bits .and .i64 ((0 : Nat) : Int) x == 0) = false) := by
    intro x hx
    rcases hx with rfl | rfl | rfl <;> decide +kernel
  obtain ⟨s, hs8, hs⟩ := h.small (dp % 16) o16
  -- the uses that are laid
  have huses : ∃ v : Nat, v < 8 ∧ (noteL L dp df m)[dp % 16 * 3 + 2]? = some (v : Int) ∧ ∀ x : Int, (x = 1 ∨ x = 2 ∨ x = 4) → (Go.bits .and .i64 (v : Int) x == 0) = false → x ∈ us ∨ (L[dp % 16 * 3]? = some ((dp + 1 : Nat) : Int) ∧ L[dp % 16 * 3 + 1]? = some df ∧ (Go.bits .and .i64 (s : Int) x == 0) = false) := by
    have hset : (noteL L dp df m)[dp % 16 * 3 + 2]? = some (if L[dp % 16 * 3]? = some ((dp + 1 : Nat) : Int) ∧ L[dp % 16 * 3 + 1]? = some df then Go.bits .or .i64 m ((L[dp % 16 * 3 + 2]?).getD 0) else m) := by
      have hl := h.len
      unfold noteL
      rw [List.getElem?_set_self (by simp; omega)]
    by_cases hh : L[dp % 16 * 3]? = some ((dp + 1 : Nat) : Int) ∧ L[dp % 16 * 3 + 1]? = some df
    · rw [if_pos hh, hs, Option.getD_some, ec] at hset
      obtain ⟨v, hv, ev, hvu⟩ := or_lt c s hc hs8
      rw [ev] at hset
      refine ⟨v, hv, by rw [ec]; exact hset, fun x hx hvx => ?_⟩
      rcases (hvu x hx).1 hvx with h1 | h1
      · rcases (hcu x hx).1 h1 with h2 | h2
        · exact absurd h2 (zero_use x hx)
        · exact .inl h2
      · exact .inr ⟨hh.1, hh.2, h1⟩
    · rw [if_neg hh, ec] at hset
      refine ⟨c, hc, by rw [ec]; exact hset, fun x hx hvx => ?_⟩
      rcases (hcu x hx).1 hvx with h2 | h2
      · exact absurd h2 (zero_use x hx)
      · exact .inl h2
  obtain ⟨v, hv8, hv, hvu⟩ := huses
  refine ⟨by rw [noteL_len]; exact h.len, fun j hj => ?_, fun hu h0 h1 hh => ?_⟩
  · by_cases e : j = dp % 16
    · subst e; exact ⟨v, hv8, hv⟩
    · obtain ⟨q, h8, hq⟩ := h.small j hj
      exact ⟨q, h8, by rw [noteL_other _ _ _ _ _ (by omega) (by omega) (by omega)]; exact hq⟩
  · by_cases e : (dp : Int) = page
    · have ep : page.toNat = dp := by omega
      rw [if_pos e, if_pos e]
      rw [ep] at hh ⊢
      refine ⟨noteL_frame _ _ _ _ h.len, fun hx => ?_⟩
      rw [hv, Option.getD_some] at hx
      rcases hvu use hu hx with h2 | ⟨h2, h3, h4⟩
      · exact hn e (.inr h2)
      · have hk := h.kept hu h0 h1 (by rw [ep, h2]; refine congrArg some ?_; omega)
        rw [ep] at hk
        have hf : df = frame := by
          have := h3.symm.trans hk.1
          exact Option.some.inj this
        exact hn e (.inl ⟨hf, hk.2 (by rw [hs, Option.getD_some]; exact h4)⟩)
    · rw [if_neg e, if_neg e]
      by_cases e2 : page.toNat % 16 = dp % 16
      · exfalso
        rw [e2, noteL_page _ _ _ _ h.len] at hh
        have := Option.some.inj hh
        omega
      · have m2 : page.toNat % 16 < 16 := Nat.mod_lt _ (by decide)
        rw [noteL_other _ _ _ _ _ (by omega) (by omega) (by omega)] at hh ⊢
        rw [noteL_other _ _ _ _ _ (by omega) (by omega) (by omega)]
        exact h.kept hu h0 h1 hh

theorem flush1_len (L : List Int) (p : Int) : (flush1 L p).length = L.length := by unfold flush1; split <;> simp
theorem InvT.flush1 {L : List Int} {page use frame : Int} {noted : Bool} (h : InvT L page use frame noted) (p : Int) (f' : Int) (n' : Bool) (hfn : p ≠ page → f' = frame ∧ n' = noted) : InvT (flush1 L p) page use f' n' := by
  have hl := h.len
  have pm : p.toNat % 16 < 16 := Nat.mod_lt _ (by decide)
  by_cases hh : hit L p
  · have e : Hand.flush1 L p = ((L.set (p.toNat % 16 * 3) 0).set (p.toNat % 16 * 3 + 1) 0).set (p.toNat % 16 * 3 + 2) 0 := by unfold Hand.flush1; rw [if_pos hh]
    refine ⟨by rw [flush1_len]; exact hl, fun j hj => ?_, fun hu h0 h1 h2 => ?_⟩
    · rw [e]
      by_cases ej : j = p.toNat % 16
      · subst ej; exact ⟨0, by omega, by rw [List.getElem?_set_self (by simp; omega)]; rfl⟩
      · obtain ⟨q, h8, hq⟩ := h.small j hj
        exact ⟨q, h8, by rw [List.getElem?_set_ne (by omega), List.getElem?_set_ne (by omega), List.getElem?_set_ne (by omega)]; exact hq⟩
    · have m2 : page.toNat % 16 < 16 := Nat.mod_lt _ (by decide)
      rw [e] at h2 ⊢
      by_cases ej : page.toNat % 16 = p.toNat % 16
      · exfalso
        rw [ej, List.getElem?_set_ne (by omega), List.getElem?_set_ne (by omega), List.getElem?_set_self (by omega)] at h2
        have := Option.some.inj h2
        omega
      · have hne : p ≠ page := by intro h3; subst h3; exact ej rfl
        obtain ⟨rfl, rfl⟩ := hfn hne
        rw [List.getElem?_set_ne (by omega), List.getElem?_set_ne (by omega), List.getElem?_set_ne (by omega)] at h2 ⊢
        rw [List.getElem?_set_ne (by omega), List.getElem?_set_ne (by omega), List.getElem?_set_ne (by omega)]
        exact h.kept hu h0 h1 h2
  · have e : Hand.flush1 L p = L := by unfold Hand.flush1; rw [if_neg hh]
    rw [e]
    refine ⟨hl, h.small, fun hu h0 h1 h2 => ?_⟩
    by_cases hne : p = page
    · subst hne
      exact absurd ⟨h0, h1, h2⟩ hh
    · obtain ⟨rfl, rfl⟩ := hfn hne
      exact h.kept hu h0 h1 h2
theorem InvT.flush {page use : Int} (ps : List Int) : ∀ {L : List Int} {frame : Int} {noted : Bool}, InvT L page use frame noted → InvT (flushL L ps) page use (if page ∈ ps then -1 else frame) (if page ∈ ps then false else noted) := by
  induction ps with
  | nil => intro L frame noted h; simpa [flushL] using h
  | cons p r ih =>
    intro L frame noted h
    simp only [flushL]
    by_cases e : p = page
    · have h2 := h.flush1 p (-1) false (fun hne => absurd e hne)
      have h3 := ih h2
      have em : page ∈ p :: r := by rw [e]; exact List.mem_cons_self ..
      rw [if_pos em, if_pos em]
      by_cases e2 : page ∈ r
      · rw [if_pos e2, if_pos e2] at h3; exact h3
      · rw [if_neg e2, if_neg e2] at h3; exact h3
    · have h2 := h.flush1 p frame noted (fun _ => ⟨rfl, rfl⟩)
      have h3 := ih h2
      have em : page ∈ p :: r ↔ page ∈ r := by
        rw [List.mem_cons]
        constructor
        · rintro (h | h)
          · exact absurd h.symm e
          · exact h
        · exact .inr
      simp only [em]
      exact h3
/-- Flushed, a page isn't found. -/
theorem flush_gone (L : List Int) (hL : L.length = 50) (page : Nat) (use : Int) : ¬ findOk (flushL L [(page : Int)]) page use := by
  rintro ⟨_, hp, h, _⟩
  simp only [flushL] at h
  have o16 : page % 16 < 16 := Nat.mod_lt _ (by decide)
  by_cases hh : hit L (page : Int)
  · unfold flush1 at h
    rw [if_pos hh, Int.toNat_natCast, List.getElem?_set_ne (by omega), List.getElem?_set_ne (by omega), List.getElem?_set_self (by omega)] at h
    have := Option.some.inj h
    omega
  · unfold flush1 at h
    rw [if_neg hh] at h
    exact hh ⟨by omega, by omega, by rw [Int.toNat_natCast, h]; rfl⟩

end Go.Proofs.Ytfmkjdbhijeejaa.Hand
