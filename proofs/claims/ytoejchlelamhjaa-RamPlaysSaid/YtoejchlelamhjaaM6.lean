/- RamKeeps: plain parts. -/
import Derived.Test.YtoejchlelamhjaaM5
namespace Go.Proofs.Ytoejchlelamhjaa.Hand
set_option linter.unusedVariables false
set_option linter.unusedSimpArgs false
open Go.RowKit Go.Proofs.Ytoejchlelamhjaa.R Go.Proofs.Ytoejchlelamhjaa.Byt Go.Proofs.YtoejchlelamhjaaW.PrintWords Go.Proofs.YtoejchlelamhjaaW.PrintLast Go.Proofs.YtoejchlelamhjaaW.PrintMore

theorem great_l0 (ls : List S26) : ∀ (d k i : Nat) (acc : Int), i + d = ls.length → d < k → ∃ b, gunnylaw06_great.l0 k ls acc (i : Int) = some b ∧ (b = false → ls.length ≤ 60) := by
  intro d
  induction d with
  | zero =>
    intro k i acc h hk
    obtain ⟨k, rfl⟩ : ∃ m, k = m + 1 := ⟨k - 1, by omega⟩
    simp only [gunnylaw06_great.l0]
    rw [if_neg (by omega)]
    by_cases h6 : (ls.length : Int) > 60
    · rw [if_pos h6]; exact ⟨true, rfl, fun h => by cases h⟩
    · rw [if_neg h6]; exact ⟨_, rfl, fun _ => by omega⟩
  | succ d ih =>
    intro k i acc h hk
    obtain ⟨k, rfl⟩ : ∃ m, k = m + 1 := ⟨k - 1, by omega⟩
    simp only [gunnylaw06_great.l0]
    rw [if_pos (by omega)]
    by_cases h2 : (i : Int) < 200
    · rw [if_pos h2, if_pos (by omega), w64s i (by omega)]
      exact ih k (i + 1) _ (by omega) (by omega)
    · rw [if_neg h2]
      by_cases h6 : (ls.length : Int) > 60
      · rw [if_pos h6]; exact ⟨true, rfl, fun h => by cases h⟩
      · rw [if_neg h6]; exact ⟨_, rfl, fun _ => by omega⟩
theorem great_some (ls : List S26) : ∃ b, gunnylaw06_great.f (ls.length + 1) ls = some b ∧ (b = false → ls.length ≤ 60) := great_l0 ls ls.length (ls.length + 1) 0 0 (by omega) (by omega)

theorem pk_full (own : List Int) (n : Nat) : pk own (n : Int) 0 4096 ↔ ownerOf own (n : Int) ≠ 0 := ⟨fun h => h.1, fun h => ⟨h, by omega, by omega, by omega⟩⟩
theorem part_full {own B : List Int} {n : Nat} (h : ownerOf own (n : Int) ≠ 0) : part own B (n : Int) 0 4096 = (B.drop (4096 * n)).take 4096 := by
  unfold part
  rw [if_pos ((pk_full own n).2 h), Int.toNat_natCast]
  rfl
theorem part_none {own B : List Int} {n : Nat} (h : ¬ ownerOf own (n : Int) ≠ 0) : part own B (n : Int) 0 4096 = [] := by
  unfold part
  rw [if_neg (fun hp => h ((pk_full own n).1 hp))]
theorem part_len (own B B2 : List Int) (n : Nat) (hB : B2.length = B.length) : (part own B2 (n : Int) 0 4096).length = (part own B (n : Int) 0 4096).length := by
  by_cases h : ownerOf own (n : Int) ≠ 0
  · rw [part_full h, part_full h]
    simp [hB]
  · rw [part_none h, part_none h]
theorem over_get (B : List Int) (p : Nat) (l : List Int) (k : Nat) (hp : p + l.length ≤ B.length) : (over B p l)[k]? = if p ≤ k ∧ k < p + l.length then l[k - p]? else B[k]? := by
  unfold over
  have h1 : (B.take p).length = p := by rw [List.length_take]; omega
  by_cases h : k < p
  · rw [if_neg (by omega), List.append_assoc, List.getElem?_append_left (by omega), List.getElem?_take, if_pos h]
  · by_cases h2 : k < p + l.length
    · rw [if_pos (by omega), List.append_assoc, List.getElem?_append_right (by omega), h1, List.getElem?_append_left (by omega)]
    · rw [if_neg (by omega), List.getElem?_append_right (by rw [List.length_append]; omega), List.length_append, h1, List.getElem?_drop]
      congr 1
      omega
/-- Byte i of frame n. -/
theorem part_get {own B : List Int} {n i : Nat} (h : ownerOf own (n : Int) ≠ 0) (hi : i < 4096) : (part own B (n : Int) 0 4096)[i]? = B[4096 * n + i]? := by
  rw [part_full h, List.getElem?_take, if_pos hi, List.getElem?_drop]
/-- Is byte i of frame n written? -/
def inW (own : List Int) (n i : Nat) (dn dat : Int) (l : List Int) : Prop := pk own dn dat (l.length : Int) ∧ (n : Int) = dn ∧ dat ≤ (i : Int) ∧ (i : Int) - dat < (l.length : Int)
theorem wrB_get {own F B : List Int} {m f : Nat} (hg : Gd own F B m f) (n i : Nat) (dn dat : Int) (l : List Int) (hi : i < 4096) :
    (inW own n i dn dat l → (wrB own B dn dat l)[4096 * n + i]? = l[((i : Int) - dat).toNat]?) ∧ (¬ inW own n i dn dat l → (wrB own B dn dat l)[4096 * n + i]? = B[4096 * n + i]?) := by
  unfold wrB inW
  by_cases hp : pk own dn dat (l.length : Int)
  · obtain ⟨x, y, z, rfl, rfl, hz, h1, h2, h3, h4⟩ := pok_nat (s := ⟨own, F, 0, B, 0⟩) hg hp
    have h4' : 4096 * x + y + z ≤ B.length := h4
    rw [if_pos hp, Int.toNat_natCast, Int.toNat_natCast, over_get _ _ _ _ (by omega)]
    refine ⟨fun h => ?_, fun h => ?_⟩
    · obtain ⟨_, h5, h6, h7⟩ := h
      rw [if_pos (by omega)]
      congr 1
      omega
    · rw [if_neg]
      intro hh
      exact h ⟨hp, by omega, by omega, by omega⟩
  · rw [if_neg hp]
    exact ⟨fun h => absurd h.1 hp, fun _ => rfl⟩
theorem wrB_length {own F B : List Int} {m f : Nat} (hg : Gd own F B m f) (dn dat : Int) (l : List Int) : (wrB own B dn dat l).length = B.length := by
  unfold wrB
  split
  · rename_i hp
    obtain ⟨x, y, z, rfl, rfl, hz, h1, h2, h3, h4⟩ := pok_nat (s := ⟨own, F, 0, B, 0⟩) hg hp
    have h4' : 4096 * x + y + z ≤ B.length := h4
    rw [Int.toNat_natCast, Int.toNat_natCast]
    exact over_length _ _ _ (by omega)
  · rfl

/-! given, then taken -/
theorem gv_tk (own F : List Int) (t : Int) (n : Nat) (hn : n < own.length) (ho : own.getD n 0 ≠ 0) : tk (gv own F t (n : Int)).own (gv own F t (n : Int)).F (gv own F t (n : Int)).t 3 = ⟨(own.set n 0).set n 3, F, wrap64 (wrap64 (t + 1) + 1), (n : Int), true⟩ := by
  have e : ownerOf own (n : Int) ≠ 0 := by unfold ownerOf; rw [if_pos (by omega)]; exact ho
  unfold gv
  rw [if_pos e]
  unfold tk
  simp
/-- The array of what was read. -/
structure Was (w : World) (wb : Nat) (a : RA) (cs : Nat → List Int) (m N : Nat) : Prop where
  of : ∃ vs : List Value, vs.length = 8 ∧ w.heap[wb]? = some (.cells vs.toArray 36 (0, 0)) ∧ ∀ j, j < m → ∃ A c, vs[j]? = some (.slice A (cs j).length c) ∧ (cs j).length ≤ c ∧ Kd.C (Kd.int .u8) w A (cs j).length (cs j) ∧ ∀ ad, A = some ad → 0 < (cs j).length → ¬ Rown a ad.block ∧ ad.block ≠ wb ∧ ad.block < N
theorem Was.stay {w w' : World} {wb : Nat} {a : RA} {cs : Nat → List Int} {m N : Nat} {S : Nat → Prop} (h : Was w wb a cs m N) (f : Far S w w') (h1 : ¬ S wb) (h2 : ∀ k, ¬ Rown a k → k ≠ wb → k < N → ¬ S k) : Was w' wb a cs m N := by
  obtain ⟨vs, hl, hb, hr⟩ := h.of
  refine ⟨vs, hl, f.blk hb h1, fun j hj => ?_⟩
  obtain ⟨A, c, hv, hc, hC, ha⟩ := hr j hj
  exact ⟨A, c, hv, hc, C_stay hC f (fun ad e hp => h2 _ (ha ad e hp).1 (ha ad e hp).2.1 (ha ad e hp).2.2), ha⟩
theorem Was.below {w w' : World} {wb : Nat} {a : RA} {cs : Nat → List Int} {m N : Nat} (h : Was w wb a cs m N) (hb : Below w.heap.size w w') : Was w' wb a cs m N := h.stay (S := fun _ => False) (Far.of_below hb) (fun h => h) (fun _ _ _ _ h => h)
theorem Was.more {w : World} {wb : Nat} {a : RA} {cs : Nat → List Int} {m N N' : Nat} (h : Was w wb a cs m N) (hN : N ≤ N') : Was w wb a cs m N' := by
  obtain ⟨vs, hl, hb, hr⟩ := h.of
  refine ⟨vs, hl, hb, fun j hj => ?_⟩
  obtain ⟨A, c, hv, hc, hC, ha⟩ := hr j hj
  exact ⟨A, c, hv, hc, hC, fun ad e hp => ⟨(ha ad e hp).1, (ha ad e hp).2.1, Nat.lt_of_lt_of_le (ha ad e hp).2.2 hN⟩⟩
theorem Was.cell {w : World} {wb : Nat} {a : RA} {cs : Nat → List Int} {m N : Nat} (h : Was w wb a cs m N) (j : Nat) (hj : j < m) : ∃ A c, w.cell? ⟨wb, j, none⟩ = some (.slice A (cs j).length c) ∧ (cs j).length ≤ c ∧ Kd.C (Kd.int .u8) w A (cs j).length (cs j) := by
  obtain ⟨vs, hl, hb, hr⟩ := h.of
  obtain ⟨A, c, hv, hc, hC, ha⟩ := hr j hj
  refine ⟨A, c, ?_, hc, hC⟩
  rw [blk_cell hb j]
  simpa using hv
theorem Was.lay {w : World} {wb : Nat} {a : RA} {cs : Nat → List Int} {m N : Nat} (h : Was w wb a cs m N) (hm : m < 8) {A : Option Addr} {c : Nat} (hc : (cs m).length ≤ c) (hC : Kd.C (Kd.int .u8) w A (cs m).length (cs m)) (ha : ∀ ad, A = some ad → 0 < (cs m).length → ¬ Rown a ad.block ∧ ad.block ≠ wb ∧ ad.block < N) (hwb : ¬ Rown a wb) :
    Was (w.setCell ⟨wb, m, none⟩ (.slice A (cs m).length c)) wb a cs (m + 1) N := by
  obtain ⟨vs, hl, hb, hr⟩ := h.of
  have hf : Far (fun k => k = wb) w (w.setCell ⟨wb, m, none⟩ (.slice A (cs m).length c)) := (Far.refl _ _).set1 _ _
  refine ⟨vs.set m (.slice A (cs m).length c), by rw [List.length_set]; exact hl, blk_put hb m _ (by simp), fun j hj => ?_⟩
  by_cases e : j = m
  · subst e
    exact ⟨A, c, by rw [List.getElem?_set_self (by omega)], hc, C_stay hC hf (fun ad e hp he => (ha ad e hp).2.1 he), ha⟩
  · obtain ⟨A', c', hv, hc', hC', ha'⟩ := hr j (by omega)
    exact ⟨A', c', by rw [List.getElem?_set_ne (by omega)]; exact hv, hc', C_stay hC' hf (fun ad e hp he => (ha' ad e hp).2.1 he), ha'⟩

end Go.Proofs.Ytoejchlelamhjaa.Hand
