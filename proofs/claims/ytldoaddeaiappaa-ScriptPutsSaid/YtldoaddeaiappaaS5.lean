/- Choices' bytes, plain. -/
import Derived.Test.YtldoaddeaiappaaS4
namespace Go.Proofs.Ytldoaddeaiappaa.Hand
set_option linter.unusedVariables false
set_option linter.unusedSimpArgs false
open Go.RowKit Go.Proofs.Ytldoaddeaiappaa.R Go.Proofs.Ytldoaddeaiappaa.Bits Go.Proofs.YtldoaddeaiappaaW.PrintWords Go.Proofs.YtldoaddeaiappaaW.PrintLast Go.Proofs.YtldoaddeaiappaaW.PrintMore

def bitN (c : List Bool) (i : Nat) : Nat := if c.getD i false then 1 else 0
theorem bitN_le (c : List Bool) (i : Nat) : bitN c i ≤ 1 := by unfold bitN; split <;> omega
/-- The first t choices of byte j. -/
def bv (c : List Bool) (j : Nat) : Nat → Nat
  | 0 => 0
  | t + 1 => bv c j t + 2 ^ t * bitN c (8 * j + t)
theorem bv_succ (c : List Bool) (j t : Nat) : bv c j (t + 1) = bv c j t + 2 ^ t * bitN c (8 * j + t) := rfl
theorem bv_lt (c : List Bool) (j t : Nat) : bv c j t < 2 ^ t := by
  induction t with
  | zero => exact Nat.one_pos
  | succ t ih =>
    rw [bv_succ, Nat.pow_succ]
    have := bitN_le c (8 * j + t)
    have h2 : 2 ^ t * bitN c (8 * j + t) ≤ 2 ^ t * 1 := Nat.mul_le_mul_left _ this
    omega
theorem bv_stop (c : List Bool) (j : Nat) : ∀ t, c.length ≤ 8 * j + t → ∀ s, bv c j (t + s) = bv c j t := by
  intro t h s
  induction s with
  | zero => rfl
  | succ s ih =>
    rw [show t + (s + 1) = (t + s) + 1 by omega, bv_succ, ih]
    have : bitN c (8 * j + (t + s)) = 0 := by
      unfold bitN
      rw [List.getD_eq_getElem?_getD, List.getElem?_eq_none (by omega)]
      rfl
    rw [this, Nat.mul_zero, Nat.add_zero]
def chN (c : List Bool) : Nat := (c.length + 7) / 8
def st (c : List Bool) (i : Nat) : List Int := (List.range (chN c)).map fun j => ((bv c j (min 8 (i - 8 * j)) : Nat) : Int)
def chB (c : List Bool) : List Int := (List.range (chN c)).map fun j => ((bv c j 8 : Nat) : Int)
theorem st_length (c : List Bool) (i : Nat) : (st c i).length = chN c := by simp [st]
theorem chB_length (c : List Bool) : (chB c).length = chN c := by simp [chB]
theorem st_at (c : List Bool) (i j : Nat) (h : j < (st c i).length) : (st c i)[j] = ((bv c j (min 8 (i - 8 * j)) : Nat) : Int) := by simp [st]
theorem st_zero (c : List Bool) : List.replicate (chN c) (0 : Int) = st c 0 := by
  refine List.ext_getElem (by simp [st_length]) (fun j h1 h2 => ?_)
  rw [st_at, List.getElem_replicate, show min 8 (0 - 8 * j) = 0 by omega]
  rfl
theorem st_end (c : List Bool) : st c c.length = chB c := by
  refine List.ext_getElem (by simp [st_length, chB_length]) (fun j h1 h2 => ?_)
  rw [st_at]
  have : (chB c)[j] = ((bv c j 8 : Nat) : Int) := by simp [chB]
  rw [this]
  congr 1
  by_cases h : 8 * j + 8 ≤ c.length
  · rw [show min 8 (c.length - 8 * j) = 8 by omega]
  · have hs := bv_stop c j (c.length - 8 * j) (by omega) (8 - (c.length - 8 * j))
    rw [show c.length - 8 * j + (8 - (c.length - 8 * j)) = 8 by omega] at hs
    rw [show min 8 (c.length - 8 * j) = c.length - 8 * j by omega, hs]
theorem st_step (c : List Bool) (i : Nat) (h : i < c.length) : st c (i + 1) = (st c i).set (i / 8) ((bv c (i / 8) (i % 8 + 1) : Nat) : Int) := by
  refine List.ext_getElem (by simp [st_length]) (fun j h1 h2 => ?_)
  rw [st_at, List.getElem_set]
  by_cases e : i / 8 = j
  · rw [if_pos e]
    congr 2
    · omega
    · omega
  · rw [if_neg e, st_at]
    congr 2
    omega
theorem or_u8 (a t : Nat) (ht : t < 8) (ha : a < 2 ^ t) : Go.bits .or .u8 (a : Int) (shl .u8 1 (t : Int)) = ((a + 2 ^ t : Nat) : Int) := by
  have h : ∀ t : Fin 8, ∀ a : Fin 128, a.val < 2 ^ t.val → Go.bits .or .u8 (a.val : Int) (shl .u8 1 (t.val : Int)) = ((a.val + 2 ^ t.val : Nat) : Int) := by decide +kernel
  have ha2 : a < 128 := Nat.lt_of_lt_of_le ha (Nat.le_trans (Nat.pow_le_pow_right (by decide) (by omega : t ≤ 7)) (by decide))
  exact h ⟨t, ht⟩ ⟨a, ha2⟩ ha
theorem rdb (c : List Bool) (i : Nat) : rdOf false c (i : Int) = c.getD i false := rfl
theorem choices_l0 (c : List Bool) (hc : c.length ≤ 5000) : ∀ (d k i : Nat), i + d = c.length → d < k → script_choices.l0 k (st c i) c (c.length : Int) (i : Int) = some (chB c) := by
  intro d
  induction d with
  | zero =>
    intro k i h1 h2
    obtain ⟨k, rfl⟩ : ∃ m, k = m + 1 := ⟨k - 1, by omega⟩
    obtain rfl : i = c.length := by omega
    simp only [script_choices.l0]
    rw [if_neg (by omega), st_end]
  | succ d ih =>
    intro k i h1 h2
    obtain ⟨k, rfl⟩ : ∃ m, k = m + 1 := ⟨k - 1, by omega⟩
    have hn := ih k (i + 1) (by omega) (by omega)
    have hst := st_step c i (by omega)
    have hi8 : i / 8 < chN c := by unfold chN; omega
    have e1 : wrap64 (Int.tdiv (i : Int) 8) = ((i / 8 : Nat) : Int) := wnat _ _ (by rw [Int.tdiv_eq_ediv_of_nonneg (by omega)]; omega) (by omega)
    have e2 : Int.tmod (i : Int) 8 = ((i % 8 : Nat) : Int) := by rw [Int.tmod_eq_emod_of_nonneg (by omega)]; omega
    have e3 := w64s i (by omega)
    have er : rd (st c i) ((i / 8 : Nat) : Int) = ((bv c (i / 8) (i % 8) : Nat) : Int) := by
      rw [rd_at _ _ (by rw [st_length]; exact hi8), st_at]
      congr 2
      omega
    have hb := bv_lt c (i / 8) (i % 8)
    have hbs := bv_succ c (i / 8) (i % 8)
    rw [show 8 * (i / 8) + i % 8 = i by omega] at hbs
    simp only [script_choices.l0]
    rw [if_pos (by omega), if_pos (by omega), if_pos (by omega), rdb, e1, e2, e3, er, Int.toNat_natCast, or_u8 _ _ (by omega) hb]
    cases hci : c.getD i false with
    | true =>
      have hbit : bitN c i = 1 := by unfold bitN; rw [hci]; rfl
      rw [hbit, Nat.mul_one] at hbs
      rw [if_pos rfl, if_pos (by omega), if_pos (by rw [st_length]; omega), if_pos (by omega), ← hbs, ← hst]
      exact hn
    | false =>
      have hbit : bitN c i = 0 := by unfold bitN; rw [hci]; rfl
      rw [hbit, Nat.mul_zero, Nat.add_zero (bv c (i / 8) (i % 8))] at hbs
      rw [if_neg (by decide)]
      have : st c (i + 1) = st c i := by
        rw [hst, hbs]
        have := st_at c i (i / 8) (by rw [st_length]; exact hi8)
        rw [show min 8 (i - 8 * (i / 8)) = i % 8 by omega] at this
        rw [← this]
        exact List.set_getElem_self ..
      rw [this] at hn
      exact hn
theorem choices_some (k : Nat) (c : List Bool) (hc : c.length ≤ 5000) (hk : 5001 ≤ k) : script_choices.f k c = some (chB c) := by
  have e1 : wrap64 ((c.length : Int) + 8) = ((c.length + 8 : Nat) : Int) := wnat _ _ (by omega) (by omega)
  have e2 : wrap64 (((c.length + 8 : Nat) : Int) - 1) = ((c.length + 7 : Nat) : Int) := wnat _ _ (by omega) (by omega)
  have e3 : wrap64 (Int.tdiv ((c.length + 7 : Nat) : Int) 8) = ((chN c : Nat) : Int) := wnat _ _ (by rw [Int.tdiv_eq_ediv_of_nonneg (by omega)]; unfold chN; omega) (by unfold chN; omega)
  have hN : chN c ≤ 700 := by unfold chN; omega
  unfold script_choices.f
  rw [e1, e2, e3, if_pos (by omega), Int.toNat_natCast, if_pos (by omega), st_zero]
  exact choices_l0 c hc c.length k 0 (by omega) (by omega)

/-! by definition -/
/-- The last m choices of byte j. -/
def hi (c : List Bool) (j : Nat) : Nat → Nat
  | 0 => 0
  | m + 1 => 2 * hi c j m + bitN c (8 * j + (7 - m))
theorem hi_lt (c : List Bool) (j m : Nat) : hi c j m < 2 ^ m := by
  induction m with
  | zero => exact Nat.one_pos
  | succ m ih =>
    have := bitN_le c (8 * j + (7 - m))
    rw [Nat.pow_succ]
    show 2 * hi c j m + bitN c (8 * j + (7 - m)) < _
    omega
theorem hi_bv (c : List Bool) (j : Nat) : hi c j 8 = bv c j 8 := by
  simp only [hi, bv, Nat.sub_zero, Nat.reduceSub, Nat.sub_self, Nat.add_zero, Nat.reducePow]
  omega
theorem rput_l1 (a0 a1 a2 a3 : Int) (c : List Bool) (l : List S39) (hc : c.length ≤ 5000) (j : Nat) (hj : j < 1000) (acc : List Int) (ha : acc.length < 100000) (k : Nat) : ∀ (d m : Nat), m + d = 8 →
    gunnyref39_Put.l1 (k + d + 1) acc ((8 * j : Nat) : Int) ((hi c j m : Nat) : Int) (7 - (m : Int)) a0 a1 a2 a3 c l = gunnyref39_Put.l0 k (acc ++ [((bv c j 8 : Nat) : Int)]) ((8 * (j + 1) : Nat) : Int) a0 a1 a2 a3 c l := by
  intro d
  induction d with
  | zero =>
    intro m hm
    obtain rfl : m = 8 := by omega
    have hb := bv_lt c j 8
    have e1 : wrap64 (((8 * j : Nat) : Int) + 8) = ((8 * (j + 1) : Nat) : Int) := wnat _ _ (by omega) (by omega)
    simp only [Nat.add_zero, gunnyref39_Put.l1]
    rw [if_neg (by omega), if_pos (by omega), e1, hi_bv]
    have : ((bv c j 8 : Nat) : Int) % 256 = ((bv c j 8 : Nat) : Int) := by omega
    rw [this]
  | succ d ih =>
    intro m hm
    have hn := ih (m + 1) (by omega)
    have hh := hi_lt c j m
    have hp : (2 : Nat) ^ m ≤ 2 ^ 7 := Nat.pow_le_pow_right (by decide) (by omega)
    have e1 : wrap64 (((8 * j : Nat) : Int) + (7 - (m : Int))) = ((8 * j + (7 - m) : Nat) : Int) := wnat _ _ (by omega) (by omega)
    have e2 : wrap64 (2 * ((hi c j m : Nat) : Int)) = ((2 * hi c j m : Nat) : Int) := wnat _ _ (by omega) (by omega)
    have e3 : wrap64 (((2 * hi c j m : Nat) : Int) + 1) = ((2 * hi c j m + 1 : Nat) : Int) := wnat _ _ (by omega) (by omega)
    have e4 : wrap64 (7 - (m : Int) - 1) = 7 - ((m + 1 : Nat) : Int) := by rw [wrap_id (by omega) (by omega)]; omega
    have hs : hi c j (m + 1) = 2 * hi c j m + bitN c (8 * j + (7 - m)) := rfl
    rw [show k + (d + 1) + 1 = (k + d + 1) + 1 by omega]
    simp only [gunnyref39_Put.l1]
    rw [if_pos (by omega), e1, e2, e3, e4, rdb]
    by_cases hlt : 8 * j + (7 - m) < c.length
    · rw [if_pos (by omega), if_pos (by omega)]
      cases hci : c.getD (8 * j + (7 - m)) false with
      | true =>
        have hbit : bitN c (8 * j + (7 - m)) = 1 := by unfold bitN; rw [hci]; rfl
        rw [hbit] at hs
        rw [if_pos rfl, ← hs]
        exact hn
      | false =>
        have hbit : bitN c (8 * j + (7 - m)) = 0 := by unfold bitN; rw [hci]; rfl
        rw [hbit, Nat.add_zero (2 * hi c j m)] at hs
        rw [if_neg (by decide), ← hs]
        exact hn
    · have hbit : bitN c (8 * j + (7 - m)) = 0 := by unfold bitN; rw [List.getD_eq_getElem?_getD, List.getElem?_eq_none (by omega)]; rfl
      rw [hbit, Nat.add_zero (2 * hi c j m)] at hs
      rw [if_neg (by omega), ← hs]
      exact hn
theorem chB_drop (c : List Bool) (j : Nat) (h : j < chN c) : (chB c).drop j = ((bv c j 8 : Nat) : Int) :: (chB c).drop (j + 1) := by
  rw [List.drop_eq_getElem_cons (by rw [chB_length]; exact h)]
  simp [chB]
theorem rput_ch (a0 a1 a2 a3 : Int) (c : List Bool) (l : List S39) (hc : c.length ≤ 5000) (k : Nat) : ∀ (d j : Nat) (acc : List Int), j + d = chN c → acc.length + d < 100000 →
    gunnyref39_Put.l0 (k + 10 * d + 1) acc ((8 * j : Nat) : Int) a0 a1 a2 a3 c l = gunnyref39_Put.l2 k (acc ++ (chB c).drop j) 0 a0 a1 a2 a3 c l := by
  intro d
  have hN : chN c ≤ 700 := by unfold chN; omega
  induction d with
  | zero =>
    intro j acc h1 h2
    have : ¬ ((8 * j : Nat) : Int) < (c.length : Int) := by unfold chN at h1; omega
    simp only [Nat.mul_zero, Nat.add_zero, gunnyref39_Put.l0]
    rw [if_neg this, List.drop_eq_nil_of_le (by rw [chB_length]; omega), List.append_nil]
  | succ d ih =>
    intro j acc h1 h2
    have : ((8 * j : Nat) : Int) < (c.length : Int) := by unfold chN at h1; omega
    rw [show k + 10 * (d + 1) + 1 = ((k + 10 * d + 1) + 8 + 1) + 1 by omega]
    simp only [gunnyref39_Put.l0]
    rw [if_pos this]
    have h := rput_l1 a0 a1 a2 a3 c l hc j (by omega) acc (by omega) (k + 10 * d + 1) 8 0 (by omega)
    refine Eq.trans h ?_
    rw [ih (j + 1) _ (by omega) (by simp; omega), chB_drop c j (by omega)]
    simp

end Go.Proofs.Ytldoaddeaiappaa.Hand
