/- What the law ScriptBack uses, part 12: contracts of the functions that it reaches, walked, and plain laws (put together by a program out of texts made for this claim). -/
import Derived.Test.YtldoaddeaiappaaKScriptBack4
import Derived.Test.YtldoaddeaiappaaKScriptBack6
import Derived.Test.YtldoaddeaiappaaKScriptBack7
import Derived.ArgAppend
import Derived.Below
import Derived.BigQuiet
import Derived.Deep.AppendLies
import Derived.Deep.CutBlock
import Derived.Deep.DeepCutAuto
import Derived.Deep.Draws
import Derived.Deep.LoopGhost
import Derived.Deep.OwnRows
import Derived.Deep.QuietTactic
import Derived.Deep.RegionHeld3
import Derived.Handy
import Derived.KernelRfl
import Derived.Laws.BitsAllLaws
import Derived.Laws.BitsLemmas
import Derived.Laws.BytesArg
import Derived.Laws.IdiomCopy
import Derived.Laws.MakeOwn
import Derived.Laws.OwnMore
import Derived.Laws.Rows
import Derived.Laws.Slices
import Derived.Laws.StructEq
import Derived.Lib.AppendStr
import Derived.Lib.ConvBytes
import Derived.Maps.AppendAt
import Derived.OpenShut
import Derived.OrdersHeld
import Derived.OwnWalk
import Derived.RowKit
import Derived.RowKit3
import Derived.Tactics
import Derived.Test.YtldoaddeaiappaaProg
import Derived.WalkKit
import Derived.WideLaws
section
namespace Go.Proofs.Ytldoaddeaiappaa.Hand
set_option linter.unusedVariables false
set_option linter.unusedSimpArgs false
open Go.RowKit Go.Proofs.Ytldoaddeaiappaa.R Go.Proofs.Ytldoaddeaiappaa.Bits Go.Proofs.YtldoaddeaiappaaW.PrintWords Go.Proofs.YtldoaddeaiappaaW.PrintMore
/-- A number's bytes, the least first. -/
def le : Nat → Nat → List Int
  | 0, _ => []
  | n + 1, v => ((v % 256 : Nat) : Int) :: le n (v / 256)
theorem le_length (n v : Nat) : (le n v).length = n := by
  induction n generalizing v with
  | zero => rfl
  | succ n ih => simp [le, ih]
/-- The number of some bytes. -/
def val : List Int → Nat
  | [] => 0
  | b :: r => b.toNat + 256 * val r
def isBytes (l : List Int) : Prop := ∀ x ∈ l, 0 ≤ x ∧ x < 256
theorem isBytes.of_wf {l : List Int} (h : ∀ x ∈ l, (Lit.int .u8 x).wf = true) : isBytes l := by
  intro x hx
  have := h x hx
  have := bounds_u8 this
  omega
theorem isBytes.drop {l : List Int} (h : isBytes l) (n : Nat) : isBytes (l.drop n) := fun x hx => h x (List.mem_of_mem_drop hx)
theorem isBytes.take {l : List Int} (h : isBytes l) (n : Nat) : isBytes (l.take n) := fun x hx => h x (List.mem_of_mem_take hx)
theorem isBytes.app {l r : List Int} (h : isBytes l) (h2 : isBytes r) : isBytes (l ++ r) := fun x hx => (List.mem_append.1 hx).elim (h x) (h2 x)
theorem isBytes.le (n v : Nat) : isBytes (Hand.le n v) := by
  induction n generalizing v with
  | zero => intro x hx; simp [Hand.le] at hx
  | succ n ih =>
    intro x hx
    simp only [Hand.le, List.mem_cons] at hx
    rcases hx with rfl | hx
    · omega
    · exact ih _ x hx
theorem val_append (l r : List Int) : val (l ++ r) = val l + 256 ^ l.length * val r := by
  induction l with
  | nil => simp [val]
  | cons b l ih =>
    simp only [List.cons_append, val, List.length_cons, Nat.pow_succ]
    rw [ih, Nat.mul_add, Nat.mul_comm (256 ^ l.length) 256, Nat.mul_assoc]
    omega
theorem val_lt {l : List Int} (h : isBytes l) : val l < 256 ^ l.length := by
  induction l with
  | nil => simp [val]
  | cons b l ih =>
    have hb := h b (List.mem_cons_self ..)
    have := ih (fun x hx => h x (List.mem_cons_of_mem _ hx))
    simp only [val, List.length_cons, Nat.pow_succ]
    omega
theorem val_le (n v : Nat) : val (le n v) = v % 256 ^ n := by
  induction n generalizing v with
  | zero => simp [le, val, Nat.mod_one]
  | succ n ih =>
    simp only [le, val]
    rw [ih]
    have e : (256 : Nat) ^ (n + 1) = 256 * 256 ^ n := by rw [Nat.pow_succ, Nat.mul_comm]
    rw [e, Nat.mod_mul]
    omega
theorem le_val {l : List Int} (h : isBytes l) : le l.length (val l) = l := by
  induction l with
  | nil => rfl
  | cons b l ih =>
    have hb := h b (List.mem_cons_self ..)
    simp only [List.length_cons, le, val]
    have e1 : (b.toNat + 256 * val l) / 256 = val l := by omega
    rw [e1, ih (fun x hx => h x (List.mem_cons_of_mem _ hx))]
    congr 1
    omega
theorem rd_at (l : List Int) (i : Nat) (h : i < l.length) : rd l (i : Int) = l[i] := by
  unfold rd
  simp [h]
theorem pow256 (n : Nat) : (256 : Nat) ^ n = 2 ^ (8 * n) := by rw [show (256 : Nat) = 2 ^ 8 by decide, ← Nat.pow_mul]
theorem w64 (x : Nat) (h : x < 9223372036854775808) : wrap64 (x : Int) = (x : Int) := by unfold wrap64; omega
theorem w64a (x y : Nat) (h : x + y < 9223372036854775808) : wrap64 ((x : Int) + (y : Int)) = ((x + y : Nat) : Int) := by unfold wrap64; omega
theorem w8 (i : Nat) (h : i < 1000000) : wrap64 (8 * (i : Int)) = ((8 * i : Nat) : Int) := by unfold wrap64; omega
theorem u64_nat (n : Nat) (h : n < 18446744073709551616) : IntKind.u64.wrap (n : Int) = (n : Int) := by rw [u64w]; omega
theorem shr_byte (x j : Nat) (h : j ≤ 8) : shr .u64 (x : Int) ((8 * j : Nat) : Int) % 256 = ((x / 256 ^ j % 256 : Nat) : Int) := by
  rw [shr_nat x (8 * j) (by omega), ← pow256]
  omega
theorem nput_l1 (n x : Nat) (hn : n ≤ 8) (hx : x < 18446744073709551616) (l : List Int) (m i0 : Int) (d : Nat) : ∀ (k j : Nat) (acc : List Int), j ≤ n → n - j = d → acc.length + d < 1000 →
    num_Put.l1 (k + d + 1) (n : Int) acc (x : Int) l m i0 (n : Int) (j : Int) = num_Put.l0 k (n : Int) (acc ++ le d (x / 256 ^ j)) l m (wrap64 (i0 + 1)) := by
  induction d with
  | zero =>
    intro k j acc hj hd ha
    simp only [num_Put.l1]
    rw [if_neg (by omega)]
    simp [le]
  | succ d ih =>
    intro k j acc hj hd ha
    obtain ⟨q, hq⟩ : ∃ q, q = k + d + 1 := ⟨_, rfl⟩
    rw [show k + (d + 1) + 1 = q + 1 by omega]
    simp only [num_Put.l1]
    rw [hq]
    rw [if_pos (by omega), w8 j (by omega), if_pos (by omega), if_pos (by omega), shr_byte x j (by omega), w64s j (by omega), ih k (j + 1) (acc ++ [((x / 256 ^ j % 256 : Nat) : Int)]) (by omega) (by omega) (by simp; omega)]
    simp only [le, List.append_assoc, List.singleton_append]
    rw [Nat.div_div_eq_div_mul, ← Nat.pow_succ]
theorem nput_l0 (n : Nat) (hn : n ≤ 8) (l : List Int) (hl : ∀ x ∈ l, 0 ≤ x ∧ x < 18446744073709551616) (hlen : l.length ≤ 100) : ∀ (d k i : Nat) (acc : List Int), i + d = l.length → (n + 2) * d + 1 < k → acc.length + n * d < 1000 →
    num_Put.l0 k (n : Int) acc l (l.length : Int) (i : Int) = some (acc ++ ((l.drop i).map (fun x => le n x.toNat)).flatten) := by
  intro d
  induction d with
  | zero =>
    intro k i acc h1 h2 h3
    obtain ⟨k, rfl⟩ : ∃ m, k = m + 1 := ⟨k - 1, by omega⟩
    simp only [num_Put.l0]
    rw [if_neg (by omega), List.drop_eq_nil_of_le (by omega)]
    simp
  | succ d ih =>
    intro k i acc h1 h2 h3
    have e : (n + 2) * (d + 1) = (n + 2) * d + n + 2 := by rw [Nat.mul_succ]; omega
    have e2 : n * (d + 1) = n * d + n := Nat.mul_succ ..
    obtain ⟨k, rfl⟩ : ∃ m, k = (m + n + 1) + 1 := ⟨k - n - 2, by omega⟩
    have hi : i < l.length := by omega
    have hx := hl l[i] (List.getElem_mem hi)
    obtain ⟨x, ex⟩ : ∃ x : Nat, l[i] = (x : Int) := ⟨l[i].toNat, by omega⟩
    have s1 := nput_l1 n x hn (by omega) l (l.length : Int) (i : Int) n k 0 acc (by omega) (by omega) (by omega)
    rw [Nat.pow_zero, Nat.div_one, Hand.w64s i (by omega)] at s1
    simp only [num_Put.l0]
    rw [if_pos (by omega), if_pos (by omega), if_pos (by omega), rd_at l i hi, ex]
    refine Eq.trans s1 ?_
    rw [ih k (i + 1) _ (by omega) (by omega) (by rw [List.length_append, le_length]; omega), List.drop_eq_getElem_cons hi, ex]
    simp
theorem nput (k n : Nat) (h1 : 1 ≤ n) (hn : n ≤ 8) (l : List Int) (hl : ∀ x ∈ l, 0 ≤ x ∧ x < 18446744073709551616) (hlen : l.length ≤ 100) (hk : (n + 2) * l.length + 2 < k) :
    num_Put.f k (n : Int) l = some ((l.map (fun x => le n x.toNat)).flatten) := by
  obtain ⟨k, rfl⟩ : ∃ m, k = m + 1 := ⟨k - 1, by omega⟩
  unfold num_Put.f
  rw [if_neg (by omega), decide_eq_false (by omega)]
  simp only [num_Put.j0]
  rw [if_neg (by decide)]
  have hb : n * l.length ≤ 8 * 100 := Nat.mul_le_mul hn hlen
  have := nput_l0 n hn l hl hlen l.length k 0 [] (by omega) (by omega) (by simp; omega)
  rw [List.drop_zero, List.nil_append] at this
  exact this
end Go.Proofs.Ytldoaddeaiappaa.Hand
end
section
namespace Go.Proofs.Ytldoaddeaiappaa.Hand
set_option linter.unusedVariables false
set_option linter.unusedSimpArgs false
open Go.RowKit Go.Proofs.Ytldoaddeaiappaa.R Go.Proofs.Ytldoaddeaiappaa.Bits Go.Proofs.YtldoaddeaiappaaW.PrintWords Go.Proofs.YtldoaddeaiappaaW.PrintLast Go.Proofs.YtldoaddeaiappaaW.PrintMore
def bitN (c : List Bool) (i : Nat) : Nat := if c.getD i false then 1 else 0
theorem bitN_le (c : List Bool) (i : Nat) : bitN c i ≤ 1 := by unfold bitN; split <;> omega
/-- The first t choices of byte j. -/
def bv (c : List Bool) (j : Nat) : Nat → Nat
  | 0 => 0
  | t + 1 => bv c j t + 2 ^ t * bitN c (8 * j + t)
theorem bv_succ (c : List Bool) (j t : Nat) : bv c j (t + 1) = bv c j t + 2 ^ t * bitN c (8 * j + t) := rfl
theorem bv_lt (c : List Bool) (j t : Nat) : bv c j t < 2 ^ t := by
  induction t with
  | zero => exact Nat.one_pos
  | succ t ih =>
    rw [bv_succ, Nat.pow_succ]
    have := bitN_le c (8 * j + t)
    have h2 : 2 ^ t * bitN c (8 * j + t) ≤ 2 ^ t * 1 := Nat.mul_le_mul_left _ this
    omega
theorem bv_stop (c : List Bool) (j : Nat) : ∀ t, c.length ≤ 8 * j + t → ∀ s, bv c j (t + s) = bv c j t := by
  intro t h s
  induction s with
  | zero => rfl
  | succ s ih =>
    rw [show t + (s + 1) = (t + s) + 1 by omega, bv_succ, ih]
    have : bitN c (8 * j + (t + s)) = 0 := by
      unfold bitN
      rw [List.getD_eq_getElem?_getD, List.getElem?_eq_none (by omega)]
      rfl
    rw [this, Nat.mul_zero, Nat.add_zero]
def chN (c : List Bool) : Nat := (c.length + 7) / 8
def st (c : List Bool) (i : Nat) : List Int := (List.range (chN c)).map fun j => ((bv c j (min 8 (i - 8 * j)) : Nat) : Int)
def chB (c : List Bool) : List Int := (List.range (chN c)).map fun j => ((bv c j 8 : Nat) : Int)
theorem st_length (c : List Bool) (i : Nat) : (st c i).length = chN c := by simp [st]
theorem chB_length (c : List Bool) : (chB c).length = chN c := by simp [chB]
theorem st_at (c : List Bool) (i j : Nat) (h : j < (st c i).length) : (st c i)[j] = ((bv c j (min 8 (i - 8 * j)) : Nat) : Int) := by simp [st]
theorem st_zero (c : List Bool) : List.replicate (chN c) (0 : Int) = st c 0 := by
  refine List.ext_getElem (by simp [st_length]) (fun j h1 h2 => ?_)
  rw [st_at, List.getElem_replicate, show min 8 (0 - 8 * j) = 0 by omega]
  rfl
theorem st_end (c : List Bool) : st c c.length = chB c := by
  refine List.ext_getElem (by simp [st_length, chB_length]) (fun j h1 h2 => ?_)
  rw [st_at]
  have : (chB c)[j] = ((bv c j 8 : Nat) : Int) := by simp [chB]
  rw [this]
  congr 1
  by_cases h : 8 * j + 8 ≤ c.length
  · rw [show min 8 (c.length - 8 * j) = 8 by omega]
  · have hs := bv_stop c j (c.length - 8 * j) (by omega) (8 - (c.length - 8 * j))
    rw [show c.length - 8 * j + (8 - (c.length - 8 * j)) = 8 by omega] at hs
    rw [show min 8 (c.length - 8 * j) = c.length - 8 * j by omega, hs]
theorem st_step (c : List Bool) (i : Nat) (h : i < c.length) : st c (i + 1) = (st c i).set (i / 8) ((bv c (i / 8) (i % 8 + 1) : Nat) : Int) := by
  refine List.ext_getElem (by simp [st_length]) (fun j h1 h2 => ?_)
  rw [st_at, List.getElem_set]
  by_cases e : i / 8 = j
  · rw [if_pos e]
    congr 2
    · omega
    · omega
  · rw [if_neg e, st_at]
    congr 2
    omega
theorem or_u8 (a t : Nat) (ht : t < 8) (ha : a < 2 ^ t) : Go.bits .or .u8 (a : Int) (shl .u8 1 (t : Int)) = ((a + 2 ^ t : Nat) : Int) := by
  have h : ∀ t : Fin 8, ∀ a : Fin 128, a.val < 2 ^ t.val → Go.bits .or .u8 (a.val : Int) (shl .u8 1 (t.val : Int)) = ((a.val + 2 ^ t.val : Nat) : Int) := by decide +kernel
  have ha2 : a < 128 := Nat.lt_of_lt_of_le ha (Nat.le_trans (Nat.pow_le_pow_right (by decide) (by omega : t ≤ 7)) (by decide))
  exact h ⟨t, ht⟩ ⟨a, ha2⟩ ha
theorem rdb (c : List Bool) (i : Nat) : rdOf false c (i : Int) = c.getD i false := rfl
theorem choices_l0 (c : List Bool) (hc : c.length ≤ 5000) : ∀ (d k i : Nat), i + d = c.length → d < k → script_choices.l0 k (st c i) c (c.length : Int) (i : Int) = some (chB c) := by
  intro d
  induction d with
  | zero =>
    intro k i h1 h2
    obtain ⟨k, rfl⟩ : ∃ m, k = m + 1 := ⟨k - 1, by omega⟩
    obtain rfl : i = c.length := by omega
    simp only [script_choices.l0]
    rw [if_neg (by omega), st_end]
  | succ d ih =>
    intro k i h1 h2
    obtain ⟨k, rfl⟩ : ∃ m, k = m + 1 := ⟨k - 1, by omega⟩
    have hn := ih k (i + 1) (by omega) (by omega)
    have hst := st_step c i (by omega)
    have hi8 : i / 8 < chN c := by unfold chN; omega
    have e1 : wrap64 (Int.tdiv (i : Int) 8) = ((i / 8 : Nat) : Int) := wnat _ _ (by rw [Int.tdiv_eq_ediv_of_nonneg (by omega)]; omega) (by omega)
    have e2 : Int.tmod (i : Int) 8 = ((i % 8 : Nat) : Int) := by rw [Int.tmod_eq_emod_of_nonneg (by omega)]; omega
    have e3 := w64s i (by omega)
    have er : rd (st c i) ((i / 8 : Nat) : Int) = ((bv c (i / 8) (i % 8) : Nat) : Int) := by
      rw [rd_at _ _ (by rw [st_length]; exact hi8), st_at]
      congr 2
      omega
    have hb := bv_lt c (i / 8) (i % 8)
    have hbs := bv_succ c (i / 8) (i % 8)
    rw [show 8 * (i / 8) + i % 8 = i by omega] at hbs
    simp only [script_choices.l0]
    rw [if_pos (by omega), if_pos (by omega), if_pos (by omega), rdb, e1, e2, e3, er, Int.toNat_natCast, or_u8 _ _ (by omega) hb]
    cases hci : c.getD i false with
    | true =>
      have hbit : bitN c i = 1 := by unfold bitN; rw [hci]; rfl
      rw [hbit, Nat.mul_one] at hbs
      rw [if_pos rfl, if_pos (by omega), if_pos (by rw [st_length]; omega), if_pos (by omega), ← hbs, ← hst]
      exact hn
    | false =>
      have hbit : bitN c i = 0 := by unfold bitN; rw [hci]; rfl
      rw [hbit, Nat.mul_zero, Nat.add_zero (bv c (i / 8) (i % 8))] at hbs
      rw [if_neg (by decide)]
      have : st c (i + 1) = st c i := by
        rw [hst, hbs]
        have := st_at c i (i / 8) (by rw [st_length]; exact hi8)
        rw [show min 8 (i - 8 * (i / 8)) = i % 8 by omega] at this
        rw [← this]
        exact List.set_getElem_self ..
      rw [this] at hn
      exact hn
theorem choices_some (k : Nat) (c : List Bool) (hc : c.length ≤ 5000) (hk : 5001 ≤ k) : script_choices.f k c = some (chB c) := by
  have e1 : wrap64 ((c.length : Int) + 8) = ((c.length + 8 : Nat) : Int) := wnat _ _ (by omega) (by omega)
  have e2 : wrap64 (((c.length + 8 : Nat) : Int) - 1) = ((c.length + 7 : Nat) : Int) := wnat _ _ (by omega) (by omega)
  have e3 : wrap64 (Int.tdiv ((c.length + 7 : Nat) : Int) 8) = ((chN c : Nat) : Int) := wnat _ _ (by rw [Int.tdiv_eq_ediv_of_nonneg (by omega)]; unfold chN; omega) (by unfold chN; omega)
  have hN : chN c ≤ 700 := by unfold chN; omega
  unfold script_choices.f
  rw [e1, e2, e3, if_pos (by omega), Int.toNat_natCast, if_pos (by omega), st_zero]
  exact choices_l0 c hc c.length k 0 (by omega) (by omega)
/-- The last m choices of byte j. -/
def hi (c : List Bool) (j : Nat) : Nat → Nat
  | 0 => 0
  | m + 1 => 2 * hi c j m + bitN c (8 * j + (7 - m))
end Go.Proofs.Ytldoaddeaiappaa.Hand
end
section
namespace Go.Proofs.Ytldoaddeaiappaa.Hand
set_option linter.unusedVariables false
set_option linter.unusedSimpArgs false
open Go.RowKit Go.Proofs.Ytldoaddeaiappaa.R Go.Proofs.Ytldoaddeaiappaa.Bits Go.Proofs.YtldoaddeaiappaaW.PrintWords Go.Proofs.YtldoaddeaiappaaW.PrintLast Go.Proofs.YtldoaddeaiappaaW.PrintMore
/-- Which fields a kind has. -/
def hasK (a : Int) : Bool × Bool × Bool × Bool :=
  if a = 0 then (true, true, false, false) else if a = 2 then (true, true, false, false) else if a = 1 then (false, true, false, false) else if a = 3 then (false, true, true, false) else if a = 5 then (false, true, true, false)
  else if a = 6 then (false, false, true, false) else if a = 8 then (false, false, true, false) else if a = 10 then (false, false, true, false) else if a = 4 then (false, true, false, true) else (false, false, false, false)
theorem fields_some (k : Nat) (a : Int) (hk : 4 ≤ k) : script_fields.f k a = some (hasK a) := by
  obtain ⟨k, rfl⟩ : ∃ m, k = m + 4 := ⟨k - 4, by omega⟩
  by_cases h0 : a = 0
  · subst h0; simp [script_fields.f, script_fields.j0, hasK]
  by_cases h2 : a = 2
  · subst h2; simp [script_fields.f, script_fields.j0, hasK]
  by_cases h1 : a = 1
  · subst h1; simp [script_fields.f, script_fields.j0, hasK]
  by_cases h3 : a = 3
  · subst h3; simp [script_fields.f, script_fields.j0, script_fields.j1, hasK]
  by_cases h5 : a = 5
  · subst h5; simp [script_fields.f, script_fields.j0, script_fields.j1, hasK]
  by_cases h6 : a = 6
  · subst h6; simp [script_fields.f, script_fields.j0, script_fields.j1, script_fields.j2, hasK]
  by_cases h8 : a = 8
  · subst h8; simp [script_fields.f, script_fields.j0, script_fields.j1, script_fields.j2, hasK]
  by_cases h10 : a = 10
  · subst h10; simp [script_fields.f, script_fields.j0, script_fields.j1, script_fields.j2, hasK]
  by_cases h4 : a = 4
  · subst h4; simp [script_fields.f, script_fields.j0, script_fields.j1, script_fields.j2, hasK]
  simp [script_fields.f, script_fields.j0, script_fields.j1, script_fields.j2, hasK, h0, h1, h2, h3, h4, h5, h6, h8, h10]
/-- A byte's number, or 0, if there is none. -/
def wB (n : Int) (is : Bool) : Bool := if is then decide (0 ≤ n ∧ n ≤ 255) else decide (n = 0)
theorem within_some (n : Int) (is : Bool) : script_within.f n is = some (wB n is) := by
  unfold script_within.f wB
  cases is with
  | true =>
    rw [if_pos rfl, if_pos rfl]
    by_cases h : n ≥ 0
    · rw [if_pos h]; congr 1; rw [decide_eq_decide]; omega
    · rw [if_neg h, decide_eq_false (by omega)]
  | false =>
    rw [if_neg (by decide), if_neg (by decide)]
    by_cases h : n = 0 <;> simp [h]
/-- May an op be? -/
def mayB (o : S39) : Bool := decide (0 ≤ o.f0 ∧ o.f0 ≤ 10) && (wB o.f1 (hasK o.f0).1 && (wB o.f2 (hasK o.f0).2.2.1 && (wB (o.f4.length : Int) (hasK o.f0).2.2.2 && ((hasK o.f0).2.1 || decide (o.f3 = 0)))))
theorem May_some (k : Nat) (o : S39) (hk : 4 ≤ k) : script_May.f k o.f0 o.f1 o.f2 o.f3 o.f4 = some (mayB o) := by
  unfold script_May.f mayB
  rw [bs (fields_some k o.f0 hk)]
  by_cases h0 : o.f0 < 0
  · rw [if_pos h0, decide_eq_false (by omega), Bool.false_and]
  rw [if_neg h0]
  by_cases h1 : o.f0 ≥ 11
  · rw [if_pos h1, decide_eq_false (by omega), Bool.false_and]
  rw [if_neg h1, decide_eq_true (by omega), Bool.true_and, bs (within_some _ _)]
  cases w1 : wB o.f1 (hasK o.f0).1 with
  | false => rw [if_neg (by decide), Bool.false_and]
  | true =>
    rw [if_pos rfl, Bool.true_and, bs (within_some _ _)]
    cases w2 : wB o.f2 (hasK o.f0).2.2.1 with
    | false => rw [if_neg (by decide), Bool.false_and]
    | true =>
      rw [if_pos rfl, Bool.true_and, bs (within_some _ _)]
      cases w3 : wB (o.f4.length : Int) (hasK o.f0).2.2.2 with
      | false => rw [if_neg (by decide), Bool.false_and]
      | true =>
        rw [if_pos rfl, Bool.true_and]
        cases hh : (hasK o.f0).2.1 with
        | true => rw [if_pos rfl, Bool.true_or]
        | false =>
          rw [if_neg (by decide), Bool.false_or]
          by_cases h3 : o.f3 = 0 <;> simp [h3]
theorem index_l0 (l : List S39) (hl : l.length ≤ 500) : ∀ (d k i : Nat), i + d = l.length → d + 5 ≤ k → ∃ r : Int, api_Op_41.l0 k l (l.length : Int) (i : Int) = some r ∧ decide (r ≥ 0) = (l.drop i).any (fun o => !mayB o) := by
  intro d
  induction d with
  | zero =>
    intro k i h1 h2
    obtain ⟨k, rfl⟩ : ∃ m, k = m + 1 := ⟨k - 1, by omega⟩
    refine ⟨-1, ?_, ?_⟩
    · simp only [api_Op_41.l0]
      rw [if_neg (by omega)]
    · rw [List.drop_eq_nil_of_le (by omega)]; rfl
  | succ d ih =>
    intro k i h1 h2
    obtain ⟨k, rfl⟩ : ∃ m, k = m + 1 := ⟨k - 1, by omega⟩
    have hi : i < l.length := by omega
    obtain ⟨r, hr, hb⟩ := ih k (i + 1) (by omega) (by omega)
    rw [any_drop l _ i hi]
    cases hm : mayB l[i] with
    | true =>
      refine ⟨r, ?_, by rw [hb]; rfl⟩
      simp only [api_Op_41.l0]
      rw [if_pos (by omega), if_pos (by omega), if_pos (by omega), rd39 l i hi, bs (May_some k _ (by omega)), hm, if_pos rfl, w64s i (by omega)]
      exact hr
    | false =>
      refine ⟨(i : Int), ?_, by rw [decide_eq_true (by omega)]; rfl⟩
      simp only [api_Op_41.l0]
      rw [if_pos (by omega), if_pos (by omega), if_pos (by omega), rd39 l i hi, bs (May_some k _ (by omega)), hm, if_neg (by decide)]
theorem any_some (k : Nat) (l : List S39) (hl : l.length ≤ 500) (hk : 510 ≤ k) : api_Op_25.f k l = some (l.any (fun o => !mayB o)) := by
  obtain ⟨r, h1, h2⟩ := index_l0 l hl l.length k 0 (by omega) (by omega)
  unfold api_Op_25.f api_Op_41.f
  rw [show ((0 : Nat) : Int) = 0 from rfl] at h1
  rw [bs h1, h2, List.drop_zero]
/-- Why a script may not be. -/
def rightI (a0 a1 a2 a3 : Int) (c : List Bool) (l : List S39) : Int :=
  if 8 ≤ a0 ∧ a0 ≤ 96 ∧ 0 ≤ a1 ∧ a1 ≤ 128 ∧ 4 ≤ a2 ∧ a2 ≤ 96 ∧ 1 ≤ a3 ∧ a3 ≤ 100 then (if 4000 < c.length ∨ 400 < l.length then 5 else if l.any (fun o => !mayB o) = true then 3 else 0) else 1
theorem Right_some (k : Nat) (a0 a1 a2 a3 : Int) (c : List Bool) (l : List S39) (hl : l.length ≤ 500) (hk : 512 ≤ k) : script_Right.f k a0 a1 a2 a3 c l = some (rightI a0 a1 a2 a3 c l) := by
  obtain ⟨k, rfl⟩ : ∃ m, k = m + 1 := ⟨k - 1, by omega⟩
  unfold script_Right.f script_conf.f rightI
  rw [bs rfl]
  by_cases hc : 8 ≤ a0 ∧ a0 ≤ 96 ∧ 0 ≤ a1 ∧ a1 ≤ 128 ∧ 4 ≤ a2 ∧ a2 ≤ 96 ∧ 1 ≤ a3 ∧ a3 ≤ 100
  · rw [decide_eq_true hc, if_pos rfl, if_pos hc]
    by_cases h1 : 4000 < c.length
    · rw [if_pos (by omega), if_pos (.inl h1)]
      simp only [script_Right.j0]
      rw [if_pos trivial]
    · rw [if_neg (by omega)]
      by_cases h2 : 400 < l.length
      · rw [decide_eq_true (by omega), if_pos (.inr h2)]
        simp only [script_Right.j0]
        rw [if_pos trivial]
      · rw [decide_eq_false (by omega), if_neg (by omega)]
        simp only [script_Right.j0]
        rw [if_neg (by decide), bs (any_some k l hl (by omega))]
        split <;> rfl
  · rw [decide_eq_false hc, if_neg (by decide), if_neg hc]
end Go.Proofs.Ytldoaddeaiappaa.Hand
end
section
namespace Go.Proofs.Ytldoaddeaiappaa.Hand
set_option linter.unusedVariables false
set_option linter.unusedSimpArgs false
open Go.RowKit Go.Proofs.Ytldoaddeaiappaa.R Go.Proofs.Ytldoaddeaiappaa.Bits Go.Proofs.YtldoaddeaiappaaW.PrintWords Go.Proofs.YtldoaddeaiappaaW.PrintLast Go.Proofs.YtldoaddeaiappaaW.PrintMore
/-- An op's bytes, with the fields h. -/
def opH (h : Bool × Bool × Bool × Bool) (o : S39) : List Int :=
  [o.f0 % 256] ++ ((if h.1 then [o.f1 % 256] else []) ++ ((if h.2.1 then le 8 o.f3.toNat else []) ++ ((if h.2.2.1 then [o.f2 % 256] else []) ++ (if h.2.2.2 then [(o.f4.length : Int) % 256] ++ o.f4 else []))))
def opB (o : S39) : List Int := opH (hasK o.f0) o
def okO (o : S39) : Prop := 0 ≤ o.f3 ∧ o.f3 < 18446744073709551616 ∧ o.f4.length ≤ 300
theorem le1 (x : Int) : le 1 (IntKind.u64.wrap x).toNat = [x % 256] := by
  show [(((IntKind.u64.wrap x).toNat % 256 : Nat) : Int)] = [x % 256]
  rw [u64w]
  congr 1
  omega
theorem wrap_in (x : Int) : 0 ≤ IntKind.u64.wrap x ∧ IntKind.u64.wrap x < 18446744073709551616 := by
  rw [u64w]
  omega
theorem nput1 (k : Nat) (x : Int) (hk : 6 ≤ k) : num_Put.f k 1 [IntKind.u64.wrap x] = some [x % 256] := by
  have := nput k 1 (by omega) (by omega) [IntKind.u64.wrap x] (fun y hy => by rw [List.mem_singleton.1 hy]; exact wrap_in x) (by simp) (by simp; omega)
  simp only [List.map_cons, List.map_nil, List.flatten_cons, List.flatten_nil, List.append_nil, le1] at this
  exact this
theorem nput8' (k : Nat) (x : Int) (h : 0 ≤ x ∧ x < 18446744073709551616) (hk : 13 ≤ k) : num_Put.f k 8 [x] = some (le 8 x.toNat) := by
  have := nput k 8 (by omega) (by omega) [x] (fun y hy => by rw [List.mem_singleton.1 hy]; exact h) (by simp) (by simp; omega)
  simp only [List.map_cons, List.map_nil, List.flatten_cons, List.flatten_nil, List.append_nil] at this
  exact this
theorem op_some (k : Nat) (o : S39) (ho : okO o) (hk : 30 ≤ k) : script_op.f k o.f0 o.f1 o.f2 o.f3 o.f4 = some (opB o) := by
  obtain ⟨k, rfl⟩ : ∃ m, k = m + 2 := ⟨k - 2, by omega⟩
  obtain ⟨h3, h3', h4⟩ := ho
  unfold script_op.f opB
  rw [bs (fields_some _ _ (by omega)), bs (nput1 _ _ (by omega))]
  have p8 := nput8' (k + 1) o.f3 ⟨h3, h3'⟩ (by omega)
  have l8 := le_length 8 o.f3.toNat
  generalize hasK o.f0 = h
  obtain ⟨q1, q2, q3, q4⟩ := h
  unfold opH
  generalize le 8 o.f3.toNat = z at p8 l8 ⊢
  cases q1 <;> cases q2 <;> cases q3 <;> cases q4 <;> simp only [script_op.j0, script_op.j1, Bool.false_eq_true, if_false, if_true, reduceIte, bs p8, bs rfl, List.append_nil, List.nil_append] <;>
    (repeat (first | (refine (if_pos ?_).trans ?_; focus (simp only [List.length_append, List.length_cons, List.length_nil]; omega)) | rw [bs rfl])) <;> (try simp)
theorem opH_length (h : Bool × Bool × Bool × Bool) (o : S39) (hl : o.f4.length ≤ 300) : (opH h o).length ≤ 400 := by
  obtain ⟨q1, q2, q3, q4⟩ := h
  unfold opH
  cases q1 <;> cases q2 <;> cases q3 <;> cases q4 <;> simp [le_length] <;> omega
def opsB (l : List S39) : List Int := (l.map opB).flatten
theorem opsB_step (l : List S39) (i : Nat) (hi : i < l.length) : opsB (l.drop i) = opB l[i] ++ opsB (l.drop (i + 1)) := by
  unfold opsB
  rw [List.drop_eq_getElem_cons hi]
  rfl
theorem put_l0 (l : List S39) (hl : l.length ≤ 500) (hd : ∀ o ∈ l, okO o) : ∀ (d k i : Nat) (acc : List Int), i + d = l.length → d + 31 ≤ k → acc.length + 400 * d < 1000000 →
    script_Put.l0 k acc l (l.length : Int) (i : Int) = some (acc ++ opsB (l.drop i), 0) := by
  intro d
  induction d with
  | zero =>
    intro k i acc h1 h2 h3
    obtain ⟨k, rfl⟩ : ∃ m, k = m + 1 := ⟨k - 1, by omega⟩
    simp only [script_Put.l0]
    rw [if_neg (by omega), List.drop_eq_nil_of_le (by omega)]
    simp [opsB]
  | succ d ih =>
    intro k i acc h1 h2 h3
    obtain ⟨k, rfl⟩ : ∃ m, k = m + 1 := ⟨k - 1, by omega⟩
    have hi : i < l.length := by omega
    have ho := hd l[i] (List.getElem_mem hi)
    have hlen := opH_length (hasK l[i].f0) l[i] ho.2.2
    have hlen' : (opB l[i]).length ≤ 400 := hlen
    have hn := ih k (i + 1) (acc ++ opB l[i]) (by omega) (by omega) (by rw [List.length_append]; omega)
    simp only [script_Put.l0]
    rw [if_pos (by omega), if_pos (by omega), if_pos (by omega), rd39 l i hi, bs (op_some k l[i] ho (by omega)), if_pos (by omega), w64s i (by omega), hn, opsB_step l i hi, List.append_assoc]
/-- The bytes ahead of the choices. -/
def hdr (a0 a1 a2 a3 : Int) (n : Nat) : List Int := [71, a0 % 256, a1 % 256, a2 % 256, a3 % 256, (n : Int) % 256, ((n / 256 : Nat) : Int) % 256]
theorem head_some (k : Nat) (a0 a1 a2 a3 : Int) (hk : 20 ≤ k) : num_Put.f k 1 [71, IntKind.u64.wrap a0, IntKind.u64.wrap a1, IntKind.u64.wrap a2, IntKind.u64.wrap a3] = some [71, a0 % 256, a1 % 256, a2 % 256, a3 % 256] := by
  have := nput k 1 (by omega) (by omega) [71, IntKind.u64.wrap a0, IntKind.u64.wrap a1, IntKind.u64.wrap a2, IntKind.u64.wrap a3] (fun y hy => by
    simp only [List.mem_cons, List.not_mem_nil, or_false] at hy
    rcases hy with rfl | rfl | rfl | rfl | rfl
    · omega
    · exact wrap_in a0
    · exact wrap_in a1
    · exact wrap_in a2
    · exact wrap_in a3) (by simp) (by simp; omega)
  simp only [List.map_cons, List.map_nil, List.flatten_cons, List.flatten_nil, List.append_nil, le1] at this
  exact this
theorem two_some (k : Nat) (n : Nat) (hn : n ≤ 5000) (hk : 20 ≤ k) : num_Put.f k 2 [IntKind.u64.wrap (n : Int)] = some [(n : Int) % 256, ((n / 256 : Nat) : Int) % 256] := by
  have := nput k 2 (by omega) (by omega) [IntKind.u64.wrap (n : Int)] (fun y hy => by rw [List.mem_singleton.1 hy]; exact wrap_in _) (by simp) (by simp; omega)
  simp only [List.map_cons, List.map_nil, List.flatten_cons, List.flatten_nil, List.append_nil] at this
  refine this.trans ?_
  have e : (IntKind.u64.wrap (n : Int)).toNat = n := by rw [u64w]; omega
  rw [e]
  show some [_, _] = some [_, _]
  congr 2
theorem Put_some (k : Nat) (a0 a1 a2 a3 : Int) (c : List Bool) (l : List S39) (hl : l.length ≤ 500) (hc : c.length ≤ 5000) (hd : ∀ o ∈ l, okO o) (hk : 6000 ≤ k) :
    script_Put.f k a0 a1 a2 a3 c l = some (if rightI a0 a1 a2 a3 c l = 0 then hdr a0 a1 a2 a3 c.length ++ chB c ++ opsB l else [], rightI a0 a1 a2 a3 c l) := by
  unfold script_Put.f
  rw [bs (Right_some k a0 a1 a2 a3 c l hl (by omega))]
  by_cases h : rightI a0 a1 a2 a3 c l = 0
  · have hch : (chB c).length ≤ 700 := by rw [chB_length]; unfold chN; omega
    have hp := put_l0 l hl hd l.length k 0 ([71, a0 % 256, a1 % 256, a2 % 256, a3 % 256] ++ [(c.length : Int) % 256, ((c.length / 256 : Nat) : Int) % 256] ++ chB c) (by omega) (by omega) (by simp; omega)
    rw [if_pos h, if_pos h, bs (head_some k a0 a1 a2 a3 (by omega)), bs (two_some k c.length hc (by omega)), if_pos (by simp), bs rfl, bs (choices_some k c hc (by omega)), if_pos (by simp; omega), h]
    refine hp.trans ?_
    rw [List.drop_zero]
    rfl
  · rw [if_neg h, if_neg h]
theorem bytes_same (b : List Int) : gunnyref01_Bytes.f b b = some true := by unfold gunnyref01_Bytes.f; simp
end Go.Proofs.Ytldoaddeaiappaa.Hand
end
