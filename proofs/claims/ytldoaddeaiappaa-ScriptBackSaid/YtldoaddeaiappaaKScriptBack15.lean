/- What the law ScriptBack uses, part 15: contracts of the functions that it reaches, walked, and plain laws (put together by a program out of texts made for this claim). -/
import Derived.Test.YtldoaddeaiappaaKScriptBack7
import Derived.Test.YtldoaddeaiappaaKScriptBack8
import Derived.Test.YtldoaddeaiappaaKScriptBack9
import Derived.Test.YtldoaddeaiappaaKScriptBack12
import Derived.Test.YtldoaddeaiappaaKScriptBack13
import Derived.Test.YtldoaddeaiappaaKScriptBack14
import Derived.ArgAppend
import Derived.Below
import Derived.BigQuiet
import Derived.Deep.AppendLies
import Derived.Deep.CutBlock
import Derived.Deep.DeepCutAuto
import Derived.Deep.Draws
import Derived.Deep.LoopGhost
import Derived.Deep.OwnRows
import Derived.Deep.QuietTactic
import Derived.Deep.RegionHeld3
import Derived.Deep.RegionLaw
import Derived.Handy
import Derived.KernelRfl
import Derived.Laws.BitsAllLaws
import Derived.Laws.BitsLemmas
import Derived.Laws.BytesArg
import Derived.Laws.IdiomCopy
import Derived.Laws.MakeOwn
import Derived.Laws.OwnMore
import Derived.Laws.Rows
import Derived.Laws.Slices
import Derived.Laws.StructEq
import Derived.Lib.AppendStr
import Derived.Lib.ConvBytes
import Derived.Lib.SliceRun
import Derived.Maps.AppendAt
import Derived.OpenShut
import Derived.OrdersHeld
import Derived.OwnWalk
import Derived.RowKit
import Derived.RowKit3
import Derived.Tactics
import Derived.Test.YtldoaddeaiappaaProg
import Derived.WalkKit
import Derived.WideLaws
section
namespace Go.Proofs.Ytldoaddeaiappaa.Hand
set_option linter.unusedVariables false
set_option linter.unusedSimpArgs false
open Go.RowKit Go.Proofs.Ytldoaddeaiappaa.R Go.Proofs.Ytldoaddeaiappaa.Bits Go.Proofs.YtldoaddeaiappaaW.PrintWords Go.Proofs.YtldoaddeaiappaaW.PrintLast Go.Proofs.YtldoaddeaiappaaW.PrintMore
/-- The op at a place, by the fields h: none, if a byte lacks. -/
def opR (h : Bool × Bool × Bool × Bool) (b : List Int) (a : Nat) : Option (S39 × Nat) :=
  if h.1 = true ∧ b.length ≤ a + 1 then none else
  let p := if h.1 = true then a + 1 + 1 else a + 1
  if h.2.1 = true ∧ b.length < p + 8 then none else
  let q := if h.2.1 = true then p + 8 else p
  if h.2.2.1 = true ∧ b.length ≤ q then none else
  let r := if h.2.2.1 = true then q + 1 else q
  let f1 := if h.1 = true then rd b ((a + 1 : Nat) : Int) else 0
  let f2 := if h.2.2.1 = true then rd b (q : Int) else 0
  let f3 := if h.2.1 = true then ((val ((b.drop p).take 8) : Nat) : Int) else 0
  if h.2.2.2 = true then (if b.length ≤ r then none else if b.length < r + 1 + (rd b (r : Int)).toNat then none else some (⟨rd b (a : Int), f1, f2, f3, (b.drop (r + 1)).take (rd b (r : Int)).toNat⟩, r + 1 + (rd b (r : Int)).toNat))
  else some (⟨rd b (a : Int), f1, f2, f3, []⟩, r)
theorem rd_byte {b : List Int} (hB : isBytes b) (i : Nat) (h : i < b.length) : 0 ≤ rd b (i : Int) ∧ rd b (i : Int) < 256 := by
  rw [rd_at b i h]
  exact hB _ (List.getElem_mem h)
end Go.Proofs.Ytldoaddeaiappaa.Hand
end
section
namespace Go.Proofs.Ytldoaddeaiappaa.Hand
set_option linter.unusedVariables false
set_option linter.unusedSimpArgs false
open Go.RowKit Go.Proofs.Ytldoaddeaiappaa.R Go.Proofs.Ytldoaddeaiappaa.Bits Go.Proofs.YtldoaddeaiappaaW.PrintWords Go.Proofs.YtldoaddeaiappaaW.PrintLast Go.Proofs.YtldoaddeaiappaaW.PrintMore
abbrev noT (at_ e : Int) : TR := ((0, 0, 0, 0), [], [], at_, e)
/-- Bit i of the choices. -/
def bitR (b : List Int) (i : Nat) : Bool := (Go.bits .and .u8 (shr .u8 (rd b ((7 + i / 8 : Nat) : Int)) ((i % 8 : Nat) : Int)) 1) == 1
/-- The choices' bits: none, if a bit behind the last is set. -/
def chR (b : List Int) (n m : Nat) : Nat → Nat → List Bool → Option (List Bool)
  | 0, _, _ => none
  | q + 1, i, acc => if i < m then (if i < n then chR b n m q (i + 1) (acc ++ [bitR b i]) else if bitR b i = true then none else chR b n m q (i + 1) acc) else some acc
def opsR (b : List Int) (cf : Int × Int × Int × Int) (ch : List Bool) : Nat → List S39 → Nat → TR
  | 0, _, _ => noT 0 0
  | q + 1, acc, a => if a < b.length then (if acc.length = 400 then noT a 5 else if rd b (a : Int) > 10 then noT a 3 else match opR (hasK (rd b (a : Int))) b a with | none => noT b.length 4 | some r => opsR b cf ch q (acc ++ [r.1]) r.2) else (cf, ch, acc, (a : Int), 0)
def confB (c : Int × Int × Int × Int) : Bool := decide (8 ≤ c.1 ∧ c.1 ≤ 96 ∧ 0 ≤ c.2.1 ∧ c.2.1 ≤ 128 ∧ 4 ≤ c.2.2.1 ∧ c.2.2.1 ≤ 96 ∧ 1 ≤ c.2.2.2 ∧ c.2.2.2 ≤ 100)
def contR (b : List Int) (cf : Int × Int × Int × Int) (at_ : Nat) : Option (List Bool) → TR
  | none => noT ((at_ : Int) - 1) 3
  | some ch => opsR b cf ch 9010 [] at_
def refT (b : List Int) : TR :=
  if b.length < 1 then noT 0 4 else
  if rd b 0 ≠ 71 then noT 0 3 else
  if b.length < 5 then noT b.length 4 else
  let cf := (rd b 1, rd b 2, rd b 3, rd b 4)
  if confB cf = false then noT 1 1 else
  if b.length < 7 then noT b.length 4 else
  let n := (rd b 5 + 256 * rd b 6).toNat
  if 4000 < n then noT 5 5 else
  let at_ := 7 + (n + 7) / 8
  if b.length < at_ then noT b.length 4 else
  contR b cf at_ (chR b n (8 * ((n + 7) / 8)) 4010 0 [])
theorem opR_le {h : Bool × Bool × Bool × Bool} {b : List Int} {a : Nat} {r : Option (S39 × Nat)} (e : opR h b a = r) (ha : a < b.length) : ∀ x, r = some x → a < x.2 ∧ x.2 ≤ b.length := by
  rintro x rfl
  obtain ⟨h0, h1, h2, h3⟩ := h
  unfold opR at e
  cases h0 <;> cases h1 <;> cases h2 <;> cases h3 <;> simp only [Bool.false_eq_true, reduceIte, false_and, true_and, if_false, if_true] at e <;>
    (repeat' (first | (cases e; done) | (split at e))) <;> (injection e with e; subst e; dsimp only; omega)
end Go.Proofs.Ytldoaddeaiappaa.Hand
end
section
namespace Go.Proofs.Ytldoaddeaiappaa.Hand
set_option linter.unusedVariables false
set_option linter.unusedSimpArgs false
open Go.RowKit Go.Proofs.Ytldoaddeaiappaa.R Go.Proofs.Ytldoaddeaiappaa.Bits Go.Proofs.YtldoaddeaiappaaW.PrintWords Go.Proofs.YtldoaddeaiappaaW.PrintLast Go.Proofs.YtldoaddeaiappaaW.PrintMore
theorem fail_ok (b : List Int) (at_ bad x y : Int) : script_reader_fail.f b at_ bad 0 x y = some (at_, x, y) := by unfold script_reader_fail.f; rw [if_pos rfl]
theorem fail_bad (b : List Int) (at_ bad e x y : Int) (h : e ≠ 0) : script_reader_fail.f b at_ bad e x y = some (at_, bad, e) := by unfold script_reader_fail.f; rw [if_neg h]
theorem some_bad (k : Nat) (b : List Int) (at_ bad e : Int) (n : Nat) (he : e ≠ 0) (hn : n ≤ 100000) : script_reader_some.f k b at_ bad e (n : Int) = some (List.replicate n 0, at_, bad, e) := by
  unfold script_reader_some.f
  rw [if_neg he, if_pos (by omega), if_pos (by omega), Int.toNat_natCast]
theorem wsub (x y : Nat) (hx : x ≤ 1000000) (hy : y ≤ 1000000) : wrap64 ((x : Int) - (y : Int)) = (x : Int) - (y : Int) := by unfold wrap64; omega
theorem some_over (k : Nat) (b : List Int) (a : Nat) (bad : Int) (n : Nat) (hb : b.length ≤ 1000000) (ha : a ≤ b.length) (hn : n ≤ 100000) (h : b.length < a + n) : script_reader_some.f k b (a : Int) bad 0 (n : Int) = some (List.replicate n 0, (a : Int), (b.length : Int), 4) := by
  unfold script_reader_some.f
  rw [if_pos rfl, wsub b.length a hb (by omega), if_pos (by omega), fail_ok]
  simp only [Option.bind_some]
  rw [if_pos (by omega), if_pos (by omega), Int.toNat_natCast]
theorem some_l0_ok (n a : Nat) (b : List Int) (hb : b.length ≤ 1000000) (hf : a + n ≤ b.length) (bad e : Int) : ∀ (d k i : Nat) (x4 : List Int), i + d = n → d < k → x4.length = n →
    script_reader_some.l0 k (n : Int) x4 (i : Int) b ((a + n : Nat) : Int) bad e = some (x4.take i ++ (b.drop (a + i)).take (n - i), ((a + n : Nat) : Int), bad, e) := by
  intro d
  induction d with
  | zero =>
    intro k i x4 h1 h2 h3
    obtain ⟨k, rfl⟩ : ∃ m, k = m + 1 := ⟨k - 1, by omega⟩
    obtain rfl : i = n := by omega
    simp only [script_reader_some.l0]
    rw [if_neg (by omega), Nat.sub_self, List.take_zero, List.append_nil, List.take_of_length_le (by omega)]
  | succ d ih =>
    intro k i x4 h1 h2 h3
    obtain ⟨k, rfl⟩ : ∃ m, k = m + 1 := ⟨k - 1, by omega⟩
    have q1 : wrap64 (((a + n : Nat) : Int) - (n : Int)) = (a : Int) := by unfold wrap64; omega
    have q2 : wrap64 ((a : Int) + (i : Int)) = ((a + i : Nat) : Int) := by unfold wrap64; omega
    have q3 : wrap64 ((i : Int) + 1) = ((i + 1 : Nat) : Int) := by unfold wrap64; omega
    have hr : rd b ((a + i : Nat) : Int) = b[a + i]'(by omega) := by unfold rd; rw [Int.toNat_natCast, List.getD_eq_getElem?_getD, List.getElem?_eq_getElem (by omega)]; rfl
    simp only [script_reader_some.l0]
    rw [q1, q2, q3, hr, if_pos (by omega), if_pos (by omega), if_pos (by omega), if_pos (by omega), if_pos (by omega), Int.toNat_natCast, ih k (i + 1) _ (by omega) (by omega) (by rw [List.length_set]; exact h3)]
    congr 2
    rw [List.take_set, List.take_succ_eq_append_getElem (by omega), List.drop_eq_getElem_cons (show a + i < b.length by omega), show n - i = (n - (i + 1)) + 1 by omega, List.take_succ_cons, show a + i + 1 = a + (i + 1) by omega]
    rw [List.set_append_right _ _ (by rw [List.length_take]; omega), List.length_take, show i - min i x4.length = 0 by omega]
    simp
theorem some_ok (k : Nat) (b : List Int) (a : Nat) (bad : Int) (n : Nat) (hb : b.length ≤ 1000000) (hf : a + n ≤ b.length) (hk : n < k) : script_reader_some.f k b (a : Int) bad 0 (n : Int) = some ((b.drop a).take n, ((a + n : Nat) : Int), bad, 0) := by
  have q0 : wrap64 ((a : Int) + (n : Int)) = ((a + n : Nat) : Int) := by unfold wrap64; omega
  have q1 : wrap64 (((a + n : Nat) : Int) - (n : Int)) = (a : Int) := by unfold wrap64; omega
  have q2 : wrap64 (wrap64 ((n : Int) + (n : Int)) + 1) = ((2 * n + 1 : Nat) : Int) := by unfold wrap64; omega
  unfold script_reader_some.f
  rw [if_pos rfl, wsub b.length a hb (by omega), if_neg (by omega), q0, q1, wsub b.length (a + n) hb (by omega), q2]
  rw [if_pos (by omega), if_pos (by omega), if_pos (by omega), if_pos (by omega), if_pos (by omega), if_pos (by omega), if_pos (by omega), if_pos (by omega)]
  have := some_l0_ok n a b hb hf bad 0 n k 0 (List.replicate (n : Int).toNat 0) (by omega) hk (by rw [Int.toNat_natCast, List.length_replicate])
  rw [show ((0 : Nat) : Int) = 0 from rfl] at this
  rw [this]
  simp
theorem isBytes_zeros (n : Nat) : isBytes (List.replicate n 0) := fun x hx => by rw [(List.mem_replicate.1 hx).2]; omega
theorem val_zeros (n : Nat) : val (List.replicate n 0) = 0 := by
  induction n with
  | zero => rfl
  | succ n ih => rw [List.replicate_succ, val, ih]; rfl
theorem get_all (k : Nat) (l : List Int) (hl : isBytes l) (n : Nat) (h1 : 1 ≤ n) (hn : n ≤ 8) (h : l.length = n) (hk : 8 < k) : num_Get.f k l 0 (n : Int) = some (((val l : Nat) : Int), true) := by
  have := nget k l hl (by omega) 0 n h1 hn (by omega) hk
  rw [show ((0 : Nat) : Int) = 0 from rfl] at this
  rw [List.drop_zero, List.take_of_length_le (by omega)] at this
  exact this
theorem num_bad (k : Nat) (b : List Int) (at_ bad e : Int) (n : Nat) (he : e ≠ 0) (h1 : 1 ≤ n) (hn : n ≤ 8) (hk : 8 < k) : script_reader_number.f k b at_ bad e (n : Int) = some (0, at_, bad, e) := by
  unfold script_reader_number.f
  rw [some_bad k b at_ bad e n he (by omega)]
  simp only [Option.bind_some]
  rw [get_all k _ (isBytes_zeros n) n h1 hn (by simp) hk, val_zeros, Option.bind_some, w64 0 (by omega)]
  rfl
theorem num_over (k : Nat) (b : List Int) (a : Nat) (bad : Int) (n : Nat) (hb : b.length ≤ 1000000) (ha : a ≤ b.length) (h : b.length < a + n) (h1 : 1 ≤ n) (hn : n ≤ 8) (hk : 8 < k) : script_reader_number.f k b (a : Int) bad 0 (n : Int) = some (0, (a : Int), (b.length : Int), 4) := by
  unfold script_reader_number.f
  rw [some_over k b a bad n hb ha (by omega) h]
  simp only [Option.bind_some]
  rw [get_all k _ (isBytes_zeros n) n h1 hn (by simp) hk, val_zeros, Option.bind_some, w64 0 (by omega)]
  rfl
theorem num_ok (k : Nat) (b : List Int) (hB : isBytes b) (a : Nat) (bad : Int) (n : Nat) (hb : b.length ≤ 1000000) (hf : a + n ≤ b.length) (h1 : 1 ≤ n) (hn : n ≤ 2) (hk : 8 < k) : script_reader_number.f k b (a : Int) bad 0 (n : Int) = some (((val ((b.drop a).take n) : Nat) : Int), ((a + n : Nat) : Int), bad, 0) := by
  have hl : ((b.drop a).take n).length = n := by rw [List.length_take, List.length_drop]; omega
  have hv := val_lt ((hB.drop a).take n)
  rw [hl] at hv
  have hv2 : 256 ^ n ≤ 256 ^ 2 := Nat.pow_le_pow_right (by decide) hn
  unfold script_reader_number.f
  rw [some_ok k b a bad n hb hf (by omega)]
  simp only [Option.bind_some]
  rw [get_all k _ ((hB.drop a).take n) n h1 (by omega) hl hk]
  simp only [Option.bind_some]
  rw [w64 _ (by omega)]
theorem num1 (k : Nat) (b : List Int) (hB : isBytes b) (a : Nat) (bad : Int) (hb : b.length ≤ 1000000) (hf : a < b.length) (hk : 8 < k) : script_reader_number.f k b (a : Int) bad 0 1 = some (b[a], ((a + 1 : Nat) : Int), bad, 0) := by
  have := num_ok k b hB a bad 1 hb (by omega) (by omega) (by omega) hk
  have hx := hB b[a] (List.getElem_mem hf)
  rw [show ((1 : Nat) : Int) = 1 from rfl] at this
  rw [this, List.drop_eq_getElem_cons hf]
  simp only [List.take_succ_cons, List.take_zero, val]
  congr 2
  omega
theorem choices_bad (k : Nat) (b : List Int) (a bad e : Int) (he : e ≠ 0) (hk : 20 ≤ k) : script_reader_choices.f k b a bad e = some ([], a, bad, e) := by
  obtain ⟨k, rfl⟩ : ∃ m, k = m + 1 := ⟨k - 1, by omega⟩
  unfold script_reader_choices.f
  have h2 := num_bad (k + 1) b a bad e 2 he (by omega) (by omega) (by omega)
  rw [show ((2 : Nat) : Int) = 2 from rfl] at h2
  rw [h2, Option.bind_some]
  dsimp only
  rw [if_neg (by omega), show wrap64 (Int.tdiv (wrap64 (wrap64 (0 + 8) - 1)) 8) = ((0 : Nat) : Int) by decide +kernel, some_bad (k + 1) b a bad e 0 he (by omega), Option.bind_some]
  dsimp only
  rw [List.replicate_zero, List.length_nil, show wrap64 (8 * ((0 : Nat) : Int)) = 0 by decide +kernel]
  simp only [script_reader_choices.l0]
  rw [if_neg (by omega)]
theorem takeL_bad (k q : Nat) (b : List Int) (acc : List S39) (a bad e : Int) (he : e ≠ 0) : takeL k b (q + 1) acc a bad e = some (acc, a, bad, e) := by
  rw [takeL, if_neg he]
theorem takeF_bad (k : Nat) (b : List Int) (c0 c1 c2 c3 a bad e : Int) (h : script_reader_begin.f k b 0 0 0 = some (c0, c1, c2, c3, a, bad, e)) (he : e ≠ 0) (hk : 20 ≤ k) : takeF k b = some (noT bad e) := by
  unfold takeF
  rw [h, Option.bind_some]
  dsimp only
  rw [choices_bad k b a bad e he hk, Option.bind_some]
  dsimp only
  rw [show takeL k b 500 [] a bad e = some ([], a, bad, e) from takeL_bad k 499 b [] a bad e he, Option.bind_some]
  dsimp only
  rw [if_neg he]
theorem rd_take4 {b : List Int} {a : Nat} (i : Nat) (hi : i < 4) (h : a + 4 ≤ b.length) : rd ((b.drop a).take 4) (i : Int) = rd b ((a + i : Nat) : Int) := by
  unfold rd
  rw [Int.toNat_natCast, Int.toNat_natCast, List.getD_eq_getElem?_getD, List.getD_eq_getElem?_getD, List.getElem?_take_of_lt hi, List.getElem?_drop]
theorem conf_eq (a0 a1 a2 a3 : Int) : script_conf.f a0 a1 a2 a3 = some (confB (a0, a1, a2, a3)) := rfl
theorem begin_j0_bad (k : Nat) (b : List Int) (a bad e : Int) (he : e ≠ 0) (hk : 20 ≤ k) : script_reader_begin.j0 (k + 1) b a bad e = some (0, 0, 0, 0, a, bad, e) := by
  rw [script_reader_begin.j0]
  have h := some_bad k b a bad e 4 he (by omega)
  rw [show ((4 : Nat) : Int) = 4 from rfl] at h
  rw [h, Option.bind_some]
  dsimp only
  rw [if_pos (by decide), if_pos (by decide), if_pos (by decide), if_pos (by decide), show wrap64 (rd (List.replicate 4 0) 0) = 0 by decide +kernel, show wrap64 (rd (List.replicate 4 0) 1) = 0 by decide +kernel, show wrap64 (rd (List.replicate 4 0) 2) = 0 by decide +kernel, show wrap64 (rd (List.replicate 4 0) 3) = 0 by decide +kernel, conf_eq, Option.bind_some, if_neg (by decide), fail_bad b a bad e _ _ he, Option.bind_some]
theorem begin_j0_ok (k : Nat) (b : List Int) (hB : isBytes b) (hl : b.length ≤ 300000) (bad : Int) (h5 : 5 ≤ b.length) (hk : 20 ≤ k) : script_reader_begin.j0 (k + 1) b ((1 : Nat) : Int) bad 0 =
    if confB (rd b 1, rd b 2, rd b 3, rd b 4) = true then some (rd b 1, rd b 2, rd b 3, rd b 4, 5, bad, 0) else some (rd b 1, rd b 2, rd b 3, rd b 4, 5, 1, 1) := by
  rw [script_reader_begin.j0]
  have h := some_ok k b 1 bad 4 (by omega) (by omega) (by omega)
  rw [show ((4 : Nat) : Int) = 4 from rfl] at h
  have hlen : ((b.drop 1).take 4).length = 4 := by rw [List.length_take, List.length_drop]; omega
  have r0 := rd_take4 (b := b) (a := 1) 0 (by omega) (by omega)
  have r1 := rd_take4 (b := b) (a := 1) 1 (by omega) (by omega)
  have r2 := rd_take4 (b := b) (a := 1) 2 (by omega) (by omega)
  have r3 := rd_take4 (b := b) (a := 1) 3 (by omega) (by omega)
  have w1 : 0 ≤ rd b 1 ∧ rd b 1 < 256 := rd_byte hB 1 (by omega)
  have w2 : 0 ≤ rd b 2 ∧ rd b 2 < 256 := rd_byte hB 2 (by omega)
  have w3 : 0 ≤ rd b 3 ∧ rd b 3 < 256 := rd_byte hB 3 (by omega)
  have w4 : 0 ≤ rd b 4 ∧ rd b 4 < 256 := rd_byte hB 4 (by omega)
  rw [h, Option.bind_some]
  dsimp only
  rw [hlen, if_pos (by decide), if_pos (by decide), if_pos (by decide), if_pos (by decide)]
  rw [show rd ((b.drop 1).take 4) 0 = rd b 1 from r0, show rd ((b.drop 1).take 4) 1 = rd b 2 from r1, show rd ((b.drop 1).take 4) 2 = rd b 3 from r2, show rd ((b.drop 1).take 4) 3 = rd b 4 from r3]
  rw [wrap_id (x := rd b 1) (by have := w1.1; omega) (by have := w1.2; omega), wrap_id (x := rd b 2) (by have := w2.1; omega) (by have := w2.2; omega), wrap_id (x := rd b 3) (by have := w3.1; omega) (by have := w3.2; omega), wrap_id (x := rd b 4) (by have := w4.1; omega) (by have := w4.2; omega)]
  rw [conf_eq, Option.bind_some, fail_ok]
  rfl
theorem begin_j0_short (k : Nat) (b : List Int) (hl : b.length ≤ 300000) (h1 : 1 ≤ b.length) (h5 : b.length < 5) (bad : Int) : script_reader_begin.j0 (k + 1) b ((1 : Nat) : Int) bad 0 = some (0, 0, 0, 0, 1, (b.length : Int), 4) := by
  rw [script_reader_begin.j0]
  have h := some_over k b 1 bad 4 (by omega) h1 (by omega) (by omega)
  rw [show ((4 : Nat) : Int) = 4 from rfl] at h
  rw [h, Option.bind_some]
  dsimp only
  rw [if_pos (by decide), if_pos (by decide), if_pos (by decide), if_pos (by decide), show wrap64 (rd (List.replicate 4 0) 0) = 0 by decide +kernel, show wrap64 (rd (List.replicate 4 0) 1) = 0 by decide +kernel, show wrap64 (rd (List.replicate 4 0) 2) = 0 by decide +kernel, show wrap64 (rd (List.replicate 4 0) 3) = 0 by decide +kernel, conf_eq, Option.bind_some, if_neg (by decide), fail_bad b _ _ 4 _ _ (by decide), Option.bind_some]
  rfl
/-- The head: what is wrong, or the configuration. -/
theorem begin_some (k : Nat) (b : List Int) (hB : isBytes b) (hl : b.length ≤ 300000) (hk : 30 ≤ k) :
    (∃ c0 c1 c2 c3 a bad e, script_reader_begin.f k b 0 0 0 = some (c0, c1, c2, c3, a, bad, e) ∧ e ≠ 0 ∧ refT b = noT bad e) ∨
    (5 ≤ b.length ∧ rd b 0 = 71 ∧ confB (rd b 1, rd b 2, rd b 3, rd b 4) = true ∧ script_reader_begin.f k b 0 0 0 = some (rd b 1, rd b 2, rd b 3, rd b 4, 5, 0, 0)) := by
  obtain ⟨k, rfl⟩ : ∃ m, k = m + 1 := ⟨k - 1, by omega⟩
  unfold script_reader_begin.f
  by_cases h0 : b.length < 1
  · have n1 := num_over (k + 1) b 0 0 1 (by omega) (by omega) (by omega) (by omega) (by omega) (by omega)
    rw [show script_reader_number.f (k + 1) b 0 0 0 1 = some (0, 0, (b.length : Int), 4) from n1, Option.bind_some]
    dsimp only
    rw [if_neg (by decide), fail_bad b _ _ 4 _ _ (by decide), Option.bind_some]
    refine .inl ⟨_, _, _, _, _, _, _, begin_j0_bad k b 0 b.length 4 (by decide) (by omega), by decide, ?_⟩
    unfold refT
    rw [if_pos h0, show b.length = 0 by omega]
    rfl
  · have n1 := num1 (k + 1) b hB 0 0 (by omega) (by omega) (by omega)
    rw [show script_reader_number.f (k + 1) b 0 0 0 1 = some (b[0], 1, 0, 0) from n1, Option.bind_some]
    dsimp only
    rw [show b[0] = rd b 0 from (rd_at b 0 (by omega)).symm]
    by_cases h1 : rd b 0 = 71
    · rw [if_pos h1]
      by_cases h5 : b.length < 5
      · refine .inl ⟨_, _, _, _, _, _, _, begin_j0_short k b hl (by omega) h5 0, by decide, ?_⟩
        unfold refT
        rw [if_neg h0, if_neg (fun h => h h1), if_pos h5]
      · have hj := begin_j0_ok k b hB hl 0 (by omega) (by omega)
        by_cases hc : confB (rd b 1, rd b 2, rd b 3, rd b 4) = true
        · rw [if_pos hc] at hj
          exact .inr ⟨by omega, h1, hc, hj⟩
        · rw [if_neg hc] at hj
          refine .inl ⟨_, _, _, _, _, _, _, hj, by decide, ?_⟩
          unfold refT
          rw [if_neg h0, if_neg (fun h => h h1), if_neg h5]
          dsimp only
          rw [if_pos (by simpa using hc)]
    · rw [if_neg h1, fail_ok, Option.bind_some]
      refine .inl ⟨_, _, _, _, _, _, _, begin_j0_bad k b 1 0 3 (by decide) (by omega), by decide, ?_⟩
      unfold refT
      rw [if_neg h0, if_pos h1]
theorem div8 (i : Nat) (h : i < 100000) : wrap64 (Int.tdiv (i : Int) 8) = ((i / 8 : Nat) : Int) ∧ Int.tmod (i : Int) 8 = ((i % 8 : Nat) : Int) ∧ wrap64 ((i : Int) + 1) = ((i + 1 : Nat) : Int) := by
  rw [Int.tdiv_eq_ediv_of_nonneg (by omega), Int.tmod_eq_emod_of_nonneg (by omega)]
  refine ⟨?_, by omega, ?_⟩
  · unfold wrap64; omega
  · unfold wrap64; omega
/-- The choices' loop, when something is wrong already. -/
theorem ch_l0_bad (b l : List Int) (n m : Nat) (hm : m = 8 * l.length) (hm2 : m ≤ 5000) (a bad e : Int) (he : e ≠ 0) : ∀ (d k i : Nat) (acc : List Bool), i + d = m → d < k → acc.length ≤ i →
    ∃ L, script_reader_choices.l0 k (n : Int) l acc (m : Int) (i : Int) b a bad e = some (L, a, bad, e) := by
  intro d
  induction d with
  | zero =>
    intro k i acc h1 h2 h3
    obtain ⟨k, rfl⟩ : ∃ q, k = q + 1 := ⟨k - 1, by omega⟩
    exact ⟨acc, by rw [script_reader_choices.l0, if_neg (by omega)]⟩
  | succ d ih =>
    intro k i acc h1 h2 h3
    obtain ⟨k, rfl⟩ : ∃ q, k = q + 1 := ⟨k - 1, by omega⟩
    rw [script_reader_choices.l0, if_pos (by omega)]
    obtain ⟨e1, e2, e3⟩ := div8 i (by omega)
    rw [e1, e2, e3]
    clear e1 e2 e3
    rw [if_pos (by omega), if_pos (by omega), if_pos (by omega)]
    by_cases hn : i < n
    · rw [if_pos (by omega), if_pos (by omega)]
      exact ih k (i + 1) _ (by omega) (by omega) (by rw [List.length_append]; simp; omega)
    · rw [if_neg (by omega), fail_bad b a bad e _ _ he, Option.bind_some]
      obtain ⟨L, hL⟩ := ih k (i + 1) acc (by omega) (by omega) (by omega)
      exact ⟨L, by split <;> exact hL⟩
/-- The choices' loop, when nothing is wrong yet. -/
theorem ch_l0 (b l : List Int) (n m : Nat) (hm : m = 8 * l.length) (hm2 : m ≤ 5000) (hl : ∀ j, j < l.length → rd l (j : Int) = rd b ((7 + j : Nat) : Int)) (a bad : Int) : ∀ (d k i q : Nat) (acc : List Bool), i + d = m → d < k → d < q → acc.length ≤ i →
    (∃ ch, chR b n m q i acc = some ch ∧ script_reader_choices.l0 k (n : Int) l acc (m : Int) (i : Int) b a bad 0 = some (ch, a, bad, 0)) ∨
    (chR b n m q i acc = none ∧ ∃ L, script_reader_choices.l0 k (n : Int) l acc (m : Int) (i : Int) b a bad 0 = some (L, a, wrap64 (a - 1), 3)) := by
  intro d
  induction d with
  | zero =>
    intro k i q acc h1 h2 h4 h3
    obtain ⟨k, rfl⟩ : ∃ q, k = q + 1 := ⟨k - 1, by omega⟩
    obtain ⟨q, rfl⟩ : ∃ p, q = p + 1 := ⟨q - 1, by omega⟩
    exact .inl ⟨acc, by rw [chR, if_neg (by omega)], by rw [script_reader_choices.l0, if_neg (by omega)]⟩
  | succ d ih =>
    intro k i q acc h1 h2 h4 h3
    obtain ⟨k, rfl⟩ : ∃ q, k = q + 1 := ⟨k - 1, by omega⟩
    obtain ⟨q, rfl⟩ : ∃ p, q = p + 1 := ⟨q - 1, by omega⟩
    have hb : ((Go.bits .and .u8 (shr .u8 (rd l ((i / 8 : Nat) : Int)) ((i % 8 : Nat) : Int)) 1) == 1) = bitR b i := by rw [hl (i / 8) (by omega)]; rfl
    rw [script_reader_choices.l0, if_pos (by omega)]
    obtain ⟨e1, e2, e3⟩ := div8 i (by omega)
    rw [e1, e2, e3]
    clear e1 e2 e3
    rw [if_pos (by omega), if_pos (by omega), if_pos (by omega), chR, if_pos (show i < m by omega), hb]
    by_cases hn : i < n
    · rw [if_pos (show (i : Int) < (n : Int) by omega), if_pos hn, if_pos (by omega)]
      exact ih k (i + 1) q _ (by omega) (by omega) (by omega) (by rw [List.length_append]; simp; omega)
    · rw [if_neg (show ¬ (i : Int) < (n : Int) by omega), if_neg hn]
      cases hbit : bitR b i with
      | true =>
        rw [hbit] at hb
        rw [if_pos (beq_iff_eq.1 hb), if_pos rfl, fail_ok, Option.bind_some]
        obtain ⟨L, hL⟩ := ch_l0_bad b l n m hm hm2 a (wrap64 (a - 1)) 3 (by decide) d k (i + 1) acc (by omega) (by omega) (by omega)
        exact .inr ⟨rfl, L, hL⟩
      | false =>
        rw [hbit] at hb
        rw [if_neg (fun h => absurd ((beq_iff_eq.2 h).symm.trans hb) (by decide)), if_neg (by decide)]
        exact ih k (i + 1) q acc (by omega) (by omega) (by omega) (by omega)
theorem val2 (b : List Int) (hB : isBytes b) (h : 7 ≤ b.length) : ((val ((b.drop 5).take 2) : Nat) : Int) = rd b 5 + 256 * rd b 6 := by
  have h5 : 0 ≤ rd b 5 ∧ rd b 5 < 256 := rd_byte hB 5 (by omega)
  have h6 : 0 ≤ rd b 6 ∧ rd b 6 < 256 := rd_byte hB 6 (by omega)
  have e5 : rd b 5 = b[5] := rd_at b 5 (by omega)
  have e6 : rd b 6 = b[6] := rd_at b 6 (by omega)
  rw [List.drop_eq_getElem_cons (by omega), List.drop_eq_getElem_cons (by omega), ← e5, ← e6]
  simp only [List.take_succ_cons, List.take_zero, val]
  omega
/-- What follows the head. -/
def tailT (b : List Int) (cf : Int × Int × Int × Int) : TR :=
  if b.length < 7 then noT b.length 4 else
  if 4000 < (rd b 5 + 256 * rd b 6).toNat then noT 5 5 else
  if b.length < 7 + ((rd b 5 + 256 * rd b 6).toNat + 7) / 8 then noT b.length 4 else
  contR b cf (7 + ((rd b 5 + 256 * rd b 6).toNat + 7) / 8) (chR b (rd b 5 + 256 * rd b 6).toNat (8 * (((rd b 5 + 256 * rd b 6).toNat + 7) / 8)) 4010 0 [])
theorem refT_tail (b : List Int) (h5 : 5 ≤ b.length) (h0 : rd b 0 = 71) (hc : confB (rd b 1, rd b 2, rd b 3, rd b 4) = true) : refT b = tailT b (rd b 1, rd b 2, rd b 3, rd b 4) := by
  unfold refT
  rw [if_neg (by omega), if_neg (fun h => h h0), if_neg (by omega)]
  dsimp only
  rw [if_neg (by rw [hc]; decide)]
  rfl
theorem tdiv7 (n : Nat) (h : n < 100000) : wrap64 (Int.tdiv (wrap64 (wrap64 ((n : Int) + 8) - 1)) 8) = (((n + 7) / 8 : Nat) : Int) ∧ wrap64 (8 * (((n + 7) / 8 : Nat) : Int)) = ((8 * ((n + 7) / 8) : Nat) : Int) := by
  have e1 : wrap64 ((n : Int) + 8) = (n : Int) + 8 := wrap_id (by omega) (by omega)
  have e2 : wrap64 ((n : Int) + 8 - 1) = ((n + 7 : Nat) : Int) := by unfold wrap64; omega
  rw [e1, e2, Int.tdiv_eq_ediv_of_nonneg (by omega)]
  exact ⟨by unfold wrap64; omega, by unfold wrap64; omega⟩
/-- The choices: what is wrong, or they. -/
theorem chs_some (k : Nat) (b : List Int) (hB : isBytes b) (hl : b.length ≤ 300000) (h5 : 5 ≤ b.length) (hk : 6000 ≤ k) (cf : Int × Int × Int × Int) :
    (∃ ch a bad e, script_reader_choices.f k b 5 0 0 = some (ch, a, bad, e) ∧ e ≠ 0 ∧ tailT b cf = noT bad e) ∨
    (∃ ch, ∃ a : Nat, a ≤ b.length ∧ script_reader_choices.f k b 5 0 0 = some (ch, (a : Int), 0, 0) ∧ tailT b cf = opsR b cf ch 9010 [] a) := by
  unfold script_reader_choices.f tailT
  by_cases h7 : b.length < 7
  · have n1 := num_over k b 5 0 2 (by omega) (by omega) (by omega) (by omega) (by omega) (by omega)
    rw [show script_reader_number.f k b 5 0 0 2 = some (0, 5, (b.length : Int), 4) from n1, Option.bind_some]
    dsimp only
    rw [if_neg (by decide), show wrap64 (Int.tdiv (wrap64 (wrap64 (0 + 8) - 1)) 8) = ((0 : Nat) : Int) by decide +kernel, some_bad k b 5 _ 4 0 (by decide) (by omega), Option.bind_some]
    dsimp only
    rw [List.replicate_zero, List.length_nil, show wrap64 (8 * ((0 : Nat) : Int)) = 0 by decide +kernel]
    obtain ⟨L, hL⟩ := ch_l0_bad b [] 0 0 rfl (by omega) 5 (b.length : Int) 4 (by decide) 0 k 0 [] rfl (by omega) (by simp)
    exact .inl ⟨L, 5, _, 4, hL, by decide, by rw [if_pos h7]⟩
  · have n1 := num_ok k b hB 5 0 2 (by omega) (by omega) (by omega) (by omega) (by omega)
    rw [val2 b hB (by omega)] at n1
    have h5' : 0 ≤ rd b 5 ∧ rd b 5 < 256 := rd_byte hB 5 (by omega)
    have h6' : 0 ≤ rd b 6 ∧ rd b 6 < 256 := rd_byte hB 6 (by omega)
    obtain ⟨n, hn⟩ : ∃ n : Nat, rd b 5 + 256 * rd b 6 = (n : Int) := ⟨(rd b 5 + 256 * rd b 6).toNat, by omega⟩
    have hn6 : n < 65536 := by omega
    rw [hn] at n1 ⊢
    rw [show script_reader_number.f k b 5 0 0 2 = some ((n : Int), 7, 0, 0) from n1, Option.bind_some, Int.toNat_natCast]
    dsimp only
    clear n1 h5' h6' hn
    by_cases h4 : 4000 < n
    · rw [if_pos (by omega), fail_ok, Option.bind_some, if_neg h7, if_pos h4]
      exact .inl ⟨_, _, _, _, rfl, by decide, rfl⟩
    · rw [if_neg (by omega), if_neg h7, if_neg h4]
      obtain ⟨t1, t2⟩ := tdiv7 n (by omega)
      rw [t1]
      clear t1
      by_cases ha : b.length < 7 + (n + 7) / 8
      · have s1 := some_over k b 7 0 ((n + 7) / 8) (by omega) (by omega) (by omega) ha
        rw [show script_reader_some.f k b 7 0 0 (((n + 7) / 8 : Nat) : Int) = _ from s1, Option.bind_some]
        dsimp only
        rw [List.length_replicate, t2]
        clear t2 s1
        obtain ⟨L, hL⟩ := ch_l0_bad b (List.replicate ((n + 7) / 8) 0) n (8 * ((n + 7) / 8)) (by rw [List.length_replicate]) (by omega) 7 (b.length : Int) 4 (by decide) (8 * ((n + 7) / 8)) k 0 [] (by omega) (by omega) (by simp)
        exact .inl ⟨L, 7, _, 4, hL, by decide, by rw [if_pos ha]⟩
      · have s1 := some_ok k b 7 0 ((n + 7) / 8) (by omega) (by omega) (by omega)
        have hlen : ((b.drop 7).take ((n + 7) / 8)).length = (n + 7) / 8 := by rw [List.length_take, List.length_drop]; omega
        rw [show script_reader_some.f k b 7 0 0 (((n + 7) / 8 : Nat) : Int) = _ from s1, Option.bind_some]
        dsimp only
        rw [hlen, t2, if_neg ha]
        clear t2 s1
        have hrd : ∀ j, j < ((b.drop 7).take ((n + 7) / 8)).length → rd ((b.drop 7).take ((n + 7) / 8)) (j : Int) = rd b ((7 + j : Nat) : Int) := by
          intro j hj
          rw [hlen] at hj
          unfold rd
          rw [Int.toNat_natCast, Int.toNat_natCast, List.getD_eq_getElem?_getD, List.getD_eq_getElem?_getD, List.getElem?_take_of_lt hj, List.getElem?_drop]
        rcases ch_l0 b ((b.drop 7).take ((n + 7) / 8)) n (8 * ((n + 7) / 8)) (by rw [hlen]) (by omega) hrd (((7 + (n + 7) / 8 : Nat) : Int)) 0 (8 * ((n + 7) / 8)) k 0 4010 [] (by omega) (by omega) (by omega) (by simp) with ⟨ch, c1, c2⟩ | ⟨c1, L, c2⟩
        · exact .inr ⟨ch, 7 + (n + 7) / 8, by omega, c2, by rw [c1]; rfl⟩
        · refine .inl ⟨L, _, _, 3, c2, by decide, ?_⟩
          rw [c1, show wrap64 (((7 + (n + 7) / 8 : Nat) : Int) - 1) = ((7 + (n + 7) / 8 : Nat) : Int) - 1 from wrap_id (by omega) (by omega)]
          rfl
/-- An op's last part (the data), when something is wrong already. -/
theorem j2_bad (k : Nat) (b : List Int) (a bad e x0 x1 x2 x3 : Int) (h : Bool × Bool × Bool × Bool) (he : e ≠ 0) (hk : 20 ≤ k) : ∃ L, script_reader_op.j2 (k + 1) b a bad e x0 x1 x2 x3 h.1 h.2.1 h.2.2.1 h.2.2.2 = some (x0, x1, x2, x3, L, a, bad, e) := by
  rw [script_reader_op.j2]
  split
  · rw [show script_reader_number.f k b a bad e 1 = some (0, a, bad, e) from num_bad k b a bad e 1 he (by omega) (by omega) (by omega), Option.bind_some]
    dsimp only
    rw [show script_reader_some.f k b a bad e 0 = some (List.replicate 0 0, a, bad, e) from some_bad k b a bad e 0 he (by omega), Option.bind_some]
    exact ⟨_, rfl⟩
  · exact ⟨_, rfl⟩
theorem j1_bad (k : Nat) (b : List Int) (a bad e x0 x1 x2 x3 : Int) (h : Bool × Bool × Bool × Bool) (he : e ≠ 0) (hk : 20 ≤ k) : ∃ y2 L, script_reader_op.j1 (k + 2) b a bad e x0 x1 x2 x3 h.1 h.2.1 h.2.2.1 h.2.2.2 = some (x0, x1, y2, x3, L, a, bad, e) := by
  rw [script_reader_op.j1]
  split
  · rw [show script_reader_number.f (k + 1) b a bad e 1 = some (0, a, bad, e) from num_bad (k + 1) b a bad e 1 he (by omega) (by omega) (by omega), Option.bind_some]
    dsimp only
    obtain ⟨L, hL⟩ := j2_bad k b a bad e x0 x1 0 x3 h he hk
    exact ⟨_, L, hL⟩
  · obtain ⟨L, hL⟩ := j2_bad k b a bad e x0 x1 x2 x3 h he hk
    exact ⟨_, L, hL⟩
theorem j0_bad (k : Nat) (b : List Int) (a bad e x0 x1 x2 x3 : Int) (h : Bool × Bool × Bool × Bool) (he : e ≠ 0) (hk : 20 ≤ k) : ∃ y2 y3 L, script_reader_op.j0 (k + 3) b a bad e x0 x1 x2 x3 h.1 h.2.1 h.2.2.1 h.2.2.2 = some (x0, x1, y2, y3, L, a, bad, e) := by
  rw [script_reader_op.j0]
  split
  · rw [show script_reader_some.f (k + 2) b a bad e 8 = some (List.replicate 8 0, a, bad, e) from some_bad (k + 2) b a bad e 8 he (by omega), Option.bind_some]
    dsimp only
    rw [show num_Get.f (k + 2) (List.replicate 8 0) 0 8 = _ from get_all (k + 2) (List.replicate 8 0) (isBytes_zeros 8) 8 (by omega) (by omega) (by simp) (by omega), Option.bind_some]
    dsimp only
    obtain ⟨y2, L, hL⟩ := j1_bad k b a bad e x0 x1 x2 _ h he hk
    exact ⟨_, _, L, hL⟩
  · obtain ⟨y2, L, hL⟩ := j1_bad k b a bad e x0 x1 x2 x3 h he hk
    exact ⟨_, _, L, hL⟩
/-- What an op's reading leaves: the op and the place behind it, or that a byte lacks. -/
def OpAns (b : List Int) (bad : Int) (res : Option (S39 × Nat)) (x : Option (Int × Int × Int × Int × List Int × Int × Int × Int)) : Prop :=
  match res with
  | some r => x = some (r.1.f0, r.1.f1, r.1.f2, r.1.f3, r.1.f4, (r.2 : Int), bad, 0)
  | none => ∃ y0 y1 y2 y3 L a, x = some (y0, y1, y2, y3, L, a, (b.length : Int), 4)
theorem OpAns.none_ {b : List Int} {bad : Int} {x : Option (Int × Int × Int × Int × List Int × Int × Int × Int)} {y0 y1 y2 y3 : Int} {L : List Int} {a : Int} (h : x = some (y0, y1, y2, y3, L, a, (b.length : Int), 4)) : OpAns b bad none x := ⟨_, _, _, _, _, _, h⟩
def d2 (b : List Int) (h3 : Bool) (x0 x1 x2 x3 : Int) (r : Nat) : Option (S39 × Nat) :=
  if h3 = true then (if b.length ≤ r then none else if b.length < r + 1 + (rd b (r : Int)).toNat then none else some (⟨x0, x1, x2, x3, (b.drop (r + 1)).take (rd b (r : Int)).toNat⟩, r + 1 + (rd b (r : Int)).toNat)) else some (⟨x0, x1, x2, x3, []⟩, r)
theorem j2_ok (k : Nat) (b : List Int) (hB : isBytes b) (hl : b.length ≤ 300000) (r : Nat) (hr : r ≤ b.length) (bad x0 x1 x2 x3 : Int) (h : Bool × Bool × Bool × Bool) (hk : 400 ≤ k) :
    OpAns b bad (d2 b h.2.2.2 x0 x1 x2 x3 r) (script_reader_op.j2 (k + 1) b (r : Int) bad 0 x0 x1 x2 x3 h.1 h.2.1 h.2.2.1 h.2.2.2) := by
  rw [script_reader_op.j2]
  unfold d2
  by_cases h3 : h.2.2.2 = true
  · rw [if_pos h3, if_pos h3]
    by_cases c : b.length ≤ r
    · rw [if_pos c, show script_reader_number.f k b (r : Int) bad 0 1 = some (0, (r : Int), (b.length : Int), 4) from num_over k b r bad 1 (by omega) hr (by omega) (by omega) (by omega) (by omega), Option.bind_some]
      dsimp only
      rw [show script_reader_some.f k b (r : Int) (b.length : Int) 4 0 = some (List.replicate 0 0, (r : Int), (b.length : Int), 4) from some_bad k b r b.length 4 0 (by decide) (by omega), Option.bind_some]
      exact OpAns.none_ rfl
    · have hx := rd_byte hB r (by omega)
      rw [if_neg c, num1 k b hB r bad (by omega) (by omega) (by omega), Option.bind_some, ← rd_at b r (by omega)]
      dsimp only
      obtain ⟨n, hn⟩ : ∃ n : Nat, rd b (r : Int) = (n : Int) := ⟨(rd b (r : Int)).toNat, by omega⟩
      rw [hn, Int.toNat_natCast]
      by_cases c2 : b.length < r + 1 + n
      · rw [if_pos c2, some_over k b (r + 1) bad n (by omega) (by omega) (by omega) c2, Option.bind_some]
        exact OpAns.none_ rfl
      · rw [if_neg c2, some_ok k b (r + 1) bad n (by omega) (by omega) (by omega), Option.bind_some]
        rfl
  · rw [if_neg h3, if_neg h3]
    rfl
def d1 (b : List Int) (h2 h3 : Bool) (x0 x1 x2 x3 : Int) (q : Nat) : Option (S39 × Nat) :=
  if h2 = true ∧ b.length ≤ q then none else d2 b h3 x0 x1 (if h2 = true then rd b (q : Int) else x2) x3 (if h2 = true then q + 1 else q)
theorem j1_ok (k : Nat) (b : List Int) (hB : isBytes b) (hl : b.length ≤ 300000) (q : Nat) (hq : q ≤ b.length) (bad x0 x1 x2 x3 : Int) (h : Bool × Bool × Bool × Bool) (hk : 400 ≤ k) :
    OpAns b bad (d1 b h.2.2.1 h.2.2.2 x0 x1 x2 x3 q) (script_reader_op.j1 (k + 2) b (q : Int) bad 0 x0 x1 x2 x3 h.1 h.2.1 h.2.2.1 h.2.2.2) := by
  rw [script_reader_op.j1]
  unfold d1
  by_cases h2 : h.2.2.1 = true
  · rw [if_pos h2, if_pos h2, if_pos h2]
    by_cases c : b.length ≤ q
    · rw [if_pos ⟨h2, c⟩, show script_reader_number.f (k + 1) b (q : Int) bad 0 1 = some (0, (q : Int), (b.length : Int), 4) from num_over (k + 1) b q bad 1 (by omega) hq (by omega) (by omega) (by omega) (by omega), Option.bind_some]
      dsimp only
      obtain ⟨L, hL⟩ := j2_bad k b q b.length 4 x0 x1 0 x3 h (by decide) (by omega)
      exact OpAns.none_ hL
    · rw [if_neg (fun x => c x.2), num1 (k + 1) b hB q bad (by omega) (by omega) (by omega), Option.bind_some, ← rd_at b q (by omega)]
      exact j2_ok k b hB hl (q + 1) (by omega) bad x0 x1 _ x3 h hk
  · rw [if_neg h2, if_neg h2, if_neg h2, if_neg (fun x => h2 x.1)]
    exact j2_ok k b hB hl q hq bad x0 x1 x2 x3 h hk
def d0 (b : List Int) (h1 h2 h3 : Bool) (x0 x1 x2 x3 : Int) (p : Nat) : Option (S39 × Nat) :=
  if h1 = true ∧ b.length < p + 8 then none else d1 b h2 h3 x0 x1 x2 (if h1 = true then ((val ((b.drop p).take 8) : Nat) : Int) else x3) (if h1 = true then p + 8 else p)
theorem j0_ok (k : Nat) (b : List Int) (hB : isBytes b) (hl : b.length ≤ 300000) (p : Nat) (hp : p ≤ b.length) (bad x0 x1 x2 x3 : Int) (h : Bool × Bool × Bool × Bool) (hk : 400 ≤ k) :
    OpAns b bad (d0 b h.2.1 h.2.2.1 h.2.2.2 x0 x1 x2 x3 p) (script_reader_op.j0 (k + 3) b (p : Int) bad 0 x0 x1 x2 x3 h.1 h.2.1 h.2.2.1 h.2.2.2) := by
  rw [script_reader_op.j0]
  unfold d0
  by_cases h1 : h.2.1 = true
  · rw [if_pos h1, if_pos h1, if_pos h1]
    by_cases c : b.length < p + 8
    · rw [if_pos ⟨h1, c⟩, show script_reader_some.f (k + 2) b (p : Int) bad 0 8 = some (List.replicate 8 0, (p : Int), (b.length : Int), 4) from some_over (k + 2) b p bad 8 (by omega) hp (by omega) c, Option.bind_some]
      dsimp only
      rw [show num_Get.f (k + 2) (List.replicate 8 0) 0 8 = _ from get_all (k + 2) (List.replicate 8 0) (isBytes_zeros 8) 8 (by omega) (by omega) (by simp) (by omega), Option.bind_some]
      dsimp only
      obtain ⟨y2, L, hL⟩ := j1_bad k b p b.length 4 x0 x1 x2 (((val (List.replicate 8 0)) : Nat) : Int) h (by decide) (by omega)
      exact OpAns.none_ hL
    · have hlen : ((b.drop p).take 8).length = 8 := by rw [List.length_take, List.length_drop]; omega
      rw [if_neg (fun x => c x.2), show script_reader_some.f (k + 2) b (p : Int) bad 0 8 = some ((b.drop p).take 8, ((p + 8 : Nat) : Int), bad, 0) from some_ok (k + 2) b p bad 8 (by omega) (by omega) (by omega), Option.bind_some]
      dsimp only
      rw [show num_Get.f (k + 2) ((b.drop p).take 8) 0 8 = _ from get_all (k + 2) ((b.drop p).take 8) ((hB.drop p).take 8) 8 (by omega) (by omega) hlen (by omega), Option.bind_some]
      exact j1_ok k b hB hl (p + 8) (by omega) bad x0 x1 x2 _ h hk
  · rw [if_neg h1, if_neg h1, if_neg h1, if_neg (fun x => h1 x.1)]
    exact j1_ok k b hB hl p hp bad x0 x1 x2 x3 h hk
theorem opR_eq (h : Bool × Bool × Bool × Bool) (b : List Int) (a : Nat) : opR h b a = if h.1 = true ∧ b.length ≤ a + 1 then none else d0 b h.2.1 h.2.2.1 h.2.2.2 (rd b (a : Int)) (if h.1 = true then rd b ((a + 1 : Nat) : Int) else 0) 0 0 (if h.1 = true then a + 1 + 1 else a + 1) := rfl
/-- An op's reading: what the document says of it. -/
theorem takeop_some (k : Nat) (b : List Int) (hB : isBytes b) (hl : b.length ≤ 300000) (a : Nat) (ha : a < b.length) (bad : Int) (hx : rd b (a : Int) ≤ 10) (hk : 500 ≤ k) :
    OpAns b bad (opR (hasK (rd b (a : Int))) b a) (script_reader_op.f k b (a : Int) bad 0) := by
  obtain ⟨k, rfl⟩ : ∃ m, k = m + 3 := ⟨k - 3, by omega⟩
  unfold script_reader_op.f
  rw [num1 (k + 3) b hB a bad (by omega) (by omega) (by omega), Option.bind_some, ← rd_at b a (by omega)]
  dsimp only
  rw [if_neg (by omega), fields_some (k + 3) _ (by omega), Option.bind_some]
  rw [opR_eq]
  by_cases h0 : (hasK (rd b (a : Int))).1 = true
  · rw [if_pos h0, if_pos h0, if_pos h0]
    by_cases c : b.length ≤ a + 1
    · rw [if_pos ⟨h0, c⟩, show script_reader_number.f (k + 3) b ((a + 1 : Nat) : Int) bad 0 1 = some (0, ((a + 1 : Nat) : Int), (b.length : Int), 4) from num_over (k + 3) b (a + 1) bad 1 (by omega) (by omega) (by omega) (by omega) (by omega) (by omega), Option.bind_some]
      dsimp only
      obtain ⟨y2, y3, L, hL⟩ := j0_bad k b ((a + 1 : Nat) : Int) b.length 4 (rd b (a : Int)) 0 0 0 (hasK (rd b (a : Int))) (by decide) (by omega)
      exact OpAns.none_ hL
    · rw [if_neg (fun x => c x.2), num1 (k + 3) b hB (a + 1) bad (by omega) (by omega) (by omega), Option.bind_some, ← rd_at b (a + 1) (by omega)]
      exact j0_ok k b hB hl (a + 1 + 1) (by omega) bad _ _ 0 0 (hasK (rd b (a : Int))) (by omega)
  · rw [if_neg h0, if_neg h0, if_neg h0, if_neg (fun x => h0 x.1)]
    exact j0_ok k b hB hl (a + 1) (by omega) bad _ 0 0 0 (hasK (rd b (a : Int))) (by omega)
theorem op_long (k : Nat) (b : List Int) (hB : isBytes b) (hl : b.length ≤ 300000) (a : Nat) (ha : a < b.length) (bad : Int) (hx : rd b (a : Int) > 10) (hk : 500 ≤ k) :
    ∃ y0 y1 y2 y3 L a', script_reader_op.f k b (a : Int) bad 0 = some (y0, y1, y2, y3, L, a', (a : Int), 3) := by
  unfold script_reader_op.f
  rw [num1 k b hB a bad (by omega) (by omega) (by omega), Option.bind_some, ← rd_at b a (by omega)]
  dsimp only
  rw [if_pos (by omega), fail_ok, Option.bind_some]
  exact ⟨_, _, _, _, _, _, rfl⟩
/-- The ops, one behind the other. -/
theorem takeL_some (k : Nat) (b : List Int) (hB : isBytes b) (hl : b.length ≤ 300000) (hk : 500 ≤ k) (cf : Int × Int × Int × Int) (ch : List Bool) : ∀ (q2 q1 a : Nat) (acc : List S39), acc.length ≤ 400 → 402 ≤ acc.length + q2 → a ≤ b.length → 402 ≤ acc.length + q1 →
    ∃ L at_ bad e, takeL k b q2 acc (a : Int) 0 0 = some (L, at_, bad, e) ∧ opsR b cf ch q1 acc a = if e = 0 then (cf, ch, L, at_, 0) else noT bad e := by
  intro q2
  induction q2 with
  | zero => intro q1 a acc h1 h2; omega
  | succ q2 ih =>
    intro q1 a acc h1 h2 h3 h4
    obtain ⟨q1, rfl⟩ : ∃ m, q1 = m + 1 := ⟨q1 - 1, by omega⟩
    rw [takeL, opsR, if_pos rfl]
    by_cases c : a < b.length
    · rw [if_pos (show (a : Int) < (b.length : Int) by omega), if_pos c]
      by_cases c4 : acc.length = 400
      · rw [if_pos c4, if_pos c4, fail_ok, Option.bind_some]
        dsimp only
        exact ⟨_, _, _, _, rfl, by rw [if_neg (by decide)]⟩
      · rw [if_neg c4, if_neg c4]
        by_cases c5 : rd b (a : Int) > 10
        · obtain ⟨y0, y1, y2, y3, L, a', ho⟩ := op_long k b hB hl a c 0 c5 hk
          rw [ho, Option.bind_some, if_pos c5]
          dsimp only
          obtain ⟨q2, rfl⟩ : ∃ m, q2 = m + 1 := ⟨q2 - 1, by omega⟩
          rw [takeL_bad _ _ _ _ _ _ _ (by decide)]
          exact ⟨_, _, _, _, rfl, by rw [if_neg (by decide)]⟩
        · have ho := takeop_some k b hB hl a c 0 (by omega) hk
          rw [if_neg c5]
          cases hr : opR (hasK (rd b (a : Int))) b a with
          | none =>
            rw [hr] at ho
            obtain ⟨y0, y1, y2, y3, L, a', ho⟩ := ho
            rw [ho, Option.bind_some]
            dsimp only
            obtain ⟨q2, rfl⟩ : ∃ m, q2 = m + 1 := ⟨q2 - 1, by omega⟩
            rw [takeL_bad _ _ _ _ _ _ _ (by decide)]
            exact ⟨_, _, _, _, rfl, by rw [if_neg (by decide)]⟩
          | some r =>
            rw [hr] at ho
            obtain ⟨z1, z2⟩ := opR_le hr c r rfl
            have ho' : script_reader_op.f k b (a : Int) 0 0 = some (r.1.f0, r.1.f1, r.1.f2, r.1.f3, r.1.f4, (r.2 : Int), 0, 0) := ho
            rw [ho', Option.bind_some]
            dsimp only
            exact ih q1 r.2 (acc ++ [r.1]) (by rw [List.length_append]; simp; omega) (by rw [List.length_append]; simp; omega) z2 (by rw [List.length_append]; simp; omega)
    · rw [if_neg (show ¬ (a : Int) < (b.length : Int) by omega), if_neg c]
      exact ⟨_, _, _, _, rfl, by rw [if_pos rfl]⟩
/-- script.Take is the document's. -/
theorem takeF_some (k : Nat) (b : List Int) (hB : isBytes b) (hl : b.length ≤ 300000) (hk : 6000 ≤ k) : takeF k b = some (refT b) := by
  rcases begin_some k b hB hl (by omega) with ⟨c0, c1, c2, c3, a, bad, e, h1, he, hr⟩ | ⟨h5, h0, hc, h1⟩
  · rw [takeF_bad k b c0 c1 c2 c3 a bad e h1 he (by omega), hr]
  · rw [refT_tail b h5 h0 hc]
    rcases chs_some k b hB hl h5 hk (rd b 1, rd b 2, rd b 3, rd b 4) with ⟨ch, a, bad, e, g1, ge, gr⟩ | ⟨ch, a, ga, g1, gr⟩
    · unfold takeF
      rw [h1, Option.bind_some]
      dsimp only
      rw [g1, Option.bind_some]
      dsimp only
      rw [show takeL k b 500 [] a bad e = some ([], a, bad, e) from takeL_bad k 499 b [] a bad e ge, Option.bind_some]
      dsimp only
      rw [if_neg ge, gr]
    · unfold takeF
      rw [h1, Option.bind_some]
      dsimp only
      rw [g1, Option.bind_some]
      dsimp only
      obtain ⟨L, at_, bad, e, t1, t2⟩ := takeL_some k b hB hl (by omega) (rd b 1, rd b 2, rd b 3, rd b 4) ch 500 9010 a [] (by simp) (by simp) ga (by simp)
      rw [t1, Option.bind_some, gr, t2]
theorem sc_same_some (o : S39) : gunnyref39_Same.f o.f0 o.f1 o.f2 o.f3 o.f4 o.f0 o.f1 o.f2 o.f3 o.f4 = some true := by
  unfold gunnyref39_Same.f
  rw [if_pos rfl, if_pos rfl, if_pos rfl, if_pos rfl]
  simp
theorem sc_scripts_l1 (a0 a1 a2 a3 : Int) (c : List Bool) (l : List S39) (hl : l.length < 9223372036854775807) : ∀ (d k i : Nat), i + d = l.length → d < k → gunnyref39_Scripts.l1 k (i : Int) a0 a1 a2 a3 c l a0 a1 a2 a3 c l = some true := by
  intro d
  induction d with
  | zero =>
    intro k i h1 h2
    obtain ⟨k, rfl⟩ : ∃ m, k = m + 1 := ⟨k - 1, by omega⟩
    simp only [gunnyref39_Scripts.l1]
    rw [if_neg (by omega)]
  | succ d ih =>
    intro k i h1 h2
    obtain ⟨k, rfl⟩ : ∃ m, k = m + 1 := ⟨k - 1, by omega⟩
    have hn := ih k (i + 1) (by omega) (by omega)
    simp only [gunnyref39_Scripts.l1]
    rw [if_pos (by omega), if_pos (by omega), if_pos (by omega), bs (sc_same_some _), if_pos rfl, w64s i (by omega)]
    exact hn
theorem sc_scripts_l0 (a0 a1 a2 a3 : Int) (c : List Bool) (l : List S39) (hl : l.length < 9223372036854775807) (hc : c.length < 9223372036854775807) : ∀ (d k i : Nat), i + d = c.length → d + l.length + 1 < k → gunnyref39_Scripts.l0 k (i : Int) a0 a1 a2 a3 c l a0 a1 a2 a3 c l = some true := by
  intro d
  induction d with
  | zero =>
    intro k i h1 h2
    obtain ⟨k, rfl⟩ : ∃ m, k = m + 1 := ⟨k - 1, by omega⟩
    simp only [gunnyref39_Scripts.l0]
    rw [if_neg (by omega)]
    exact sc_scripts_l1 a0 a1 a2 a3 c l hl l.length k 0 (by omega) (by omega)
  | succ d ih =>
    intro k i h1 h2
    obtain ⟨k, rfl⟩ : ∃ m, k = m + 1 := ⟨k - 1, by omega⟩
    have hn := ih k (i + 1) (by omega) (by omega)
    simp only [gunnyref39_Scripts.l0]
    rw [if_pos (by omega), if_pos (by omega), if_pos (by omega), if_neg (by simp), w64s i (by omega)]
    exact hn
theorem sc_scripts_some (k : Nat) (a0 a1 a2 a3 : Int) (c : List Bool) (l : List S39) (hl : l.length ≤ 1000000) (hc : c.length ≤ 1000000) (hk : c.length + l.length + 3 < k) : gunnyref39_Scripts.f k a0 a1 a2 a3 c l a0 a1 a2 a3 c l = some true := by
  obtain ⟨k, rfl⟩ : ∃ m, k = m + 1 := ⟨k - 1, by omega⟩
  unfold gunnyref39_Scripts.f
  rw [if_neg (by simp), if_pos rfl, show ((l.length : Int) != (l.length : Int)) = false by simp]
  simp only [gunnyref39_Scripts.j0]
  rw [if_neg (by decide)]
  exact sc_scripts_l0 a0 a1 a2 a3 c l (by omega) (by omega) c.length k 0 (by omega) (by omega)
end Go.Proofs.Ytldoaddeaiappaa.Hand
end
section
namespace Go.Proofs.Ytldoaddeaiappaa.Hand
set_option linter.unusedVariables false
set_option linter.unusedSimpArgs false
open Go.RowKit Go.Proofs.Ytldoaddeaiappaa.R Go.Proofs.Ytldoaddeaiappaa.Bits Go.Proofs.YtldoaddeaiappaaW.PrintWords Go.Proofs.YtldoaddeaiappaaW.PrintLast Go.Proofs.YtldoaddeaiappaaW.PrintMore
theorem len_of_drop {b L : List Int} {a : Nat} (h : b.drop a = L) (ha : a ≤ b.length) : b.length = a + L.length := by
  have := congrArg List.length h
  rw [List.length_drop] at this
  omega
theorem rd_of_drop {b L : List Int} {a : Nat} {x : Int} (h : b.drop a = x :: L) : rd b (a : Int) = x := by
  have ha : a < b.length := by
    apply Classical.byContradiction
    intro hn
    rw [List.drop_eq_nil_of_le (by omega)] at h
    cases h
  rw [rd_at b a ha]
  rw [List.drop_eq_getElem_cons ha] at h
  exact (List.cons.inj h).1
theorem drop_of_drop {b L : List Int} {a : Nat} {x : Int} (h : b.drop a = x :: L) : b.drop (a + 1) = L := by
  rw [← List.drop_drop, h]
  rfl
theorem drop_of_app {b L M : List Int} {a : Nat} (h : b.drop a = L ++ M) : b.drop (a + L.length) = M := by
  rw [← List.drop_drop, h, List.drop_left]
theorem cons_drop {b : List Int} {a : Nat} (h : a < b.length) : b.drop a = rd b (a : Int) :: b.drop (a + 1) := by
  rw [List.drop_eq_getElem_cons h, rd_at b a h]
theorem wB_true {n : Int} (h : wB n true = true) : 0 ≤ n ∧ n ≤ 255 := by
  unfold wB at h
  rw [if_pos rfl] at h
  exact of_decide_eq_true h
theorem wB_false {n : Int} (h : wB n false = true) : n = 0 := by
  unfold wB at h
  rw [if_neg (by decide)] at h
  exact of_decide_eq_true h
theorem wB_mk {n : Int} (h0 : 0 ≤ n) (h1 : n ≤ 255) : wB n true = true := by
  unfold wB
  rw [if_pos rfl, decide_eq_true ⟨h0, h1⟩]
def e4 (h3 : Bool) (o4 : List Int) : List Int := if h3 then [(o4.length : Int) % 256] ++ o4 else []
def e1 (h : Bool) (x : Int) : List Int := if h then [x % 256] else []
def e8 (h : Bool) (x : Int) : List Int := if h then le 8 x.toNat else []
theorem opH_eq (h : Bool × Bool × Bool × Bool) (o : S39) : opH h o = (o.f0 % 256) :: (e1 h.1 o.f1 ++ (e8 h.2.1 o.f3 ++ (e1 h.2.2.1 o.f2 ++ e4 h.2.2.2 o.f4))) := rfl
theorem d2_put (b rest o4 : List Int) (h3 : Bool) (x0 x1 x2 x3 : Int) (r : Nat) (hr : r ≤ b.length) (hd : b.drop r = e4 h3 o4 ++ rest) (hw : wB (o4.length : Int) h3 = true) :
    d2 b h3 x0 x1 x2 x3 r = some (⟨x0, x1, x2, x3, o4⟩, r + (e4 h3 o4).length) := by
  have hlen := len_of_drop hd hr
  unfold d2
  unfold e4 at hd hlen ⊢
  cases h3 with
  | false =>
    have := wB_false hw
    have : o4 = [] := List.length_eq_zero_iff.1 (by omega)
    subst this
    rw [if_neg (by decide), if_neg (by decide)]
    rfl
  | true =>
    have hb := wB_true hw
    rw [if_pos rfl] at hd hlen
    simp only [List.cons_append, List.nil_append, List.length_cons, List.length_append] at hd hlen
    have h1 := rd_of_drop hd
    have h2 := drop_of_drop hd
    have h3 : (rd b (r : Int)).toNat = o4.length := by rw [h1]; omega
    rw [if_pos rfl, if_neg (by omega), h3, if_neg (by omega), h2, List.take_left, if_pos rfl]
    congr 2
    simp
    omega
theorem d1_put (b R : List Int) (h2 h3 : Bool) (x0 x1 x2 x3 : Int) (q : Nat) (hq : q ≤ b.length) (hd : b.drop q = e1 h2 x2 ++ R) (hw : wB x2 h2 = true) :
    d1 b h2 h3 x0 x1 0 x3 q = d2 b h3 x0 x1 x2 x3 (q + (e1 h2 x2).length) ∧ b.drop (q + (e1 h2 x2).length) = R ∧ q + (e1 h2 x2).length ≤ b.length := by
  have hlen := len_of_drop hd hq
  refine ⟨?_, drop_of_app hd, by rw [hlen, List.length_append]; omega⟩
  unfold d1
  unfold e1 at hd hlen ⊢
  cases h2 with
  | false =>
    have := wB_false hw
    subst this
    rw [if_neg (by simp), if_neg (by simp), if_neg (by simp)]
    rfl
  | true =>
    have hb := wB_true hw
    rw [if_pos rfl] at hd hlen
    have h1 := rd_of_drop (x := x2 % 256) (L := R) hd
    simp only [List.length_append, List.length_cons, List.length_nil] at hlen
    rw [if_neg (by rintro ⟨_, h⟩; omega), if_pos rfl, if_pos rfl, h1, show x2 % 256 = x2 by omega]
    rfl
theorem d0_put (b R : List Int) (h1 h2 h3 : Bool) (x0 x1 x3 : Int) (p : Nat) (hp : p ≤ b.length) (hd : b.drop p = e8 h1 x3 ++ R) (h0 : 0 ≤ x3) (h64 : x3 < 18446744073709551616) (hw : h1 = true ∨ x3 = 0) :
    d0 b h1 h2 h3 x0 x1 0 0 p = d1 b h2 h3 x0 x1 0 x3 (p + (e8 h1 x3).length) ∧ b.drop (p + (e8 h1 x3).length) = R ∧ p + (e8 h1 x3).length ≤ b.length := by
  have hlen := len_of_drop hd hp
  refine ⟨?_, drop_of_app hd, by rw [hlen, List.length_append]; omega⟩
  unfold d0
  unfold e8 at hd hlen ⊢
  cases h1 with
  | false =>
    have : x3 = 0 := by rcases hw with h | h; cases h; exact h
    subst this
    rw [if_neg (by simp), if_neg (by simp), if_neg (by simp)]
    rfl
  | true =>
    rw [if_pos rfl] at hd hlen
    rw [List.length_append, le_length] at hlen
    rw [if_neg (by rintro ⟨_, h⟩; omega), if_pos rfl, if_pos rfl, hd, List.take_left' (le_length _ _), val_le, if_pos rfl, le_length]
    congr 1
    omega
theorem mayB_parts {o : S39} (h : mayB o = true) : (0 ≤ o.f0 ∧ o.f0 ≤ 10) ∧ wB o.f1 (hasK o.f0).1 = true ∧ wB o.f2 (hasK o.f0).2.2.1 = true ∧ wB (o.f4.length : Int) (hasK o.f0).2.2.2 = true ∧ ((hasK o.f0).2.1 = true ∨ o.f3 = 0) := by
  unfold mayB at h
  simp only [Bool.and_eq_true, Bool.or_eq_true, decide_eq_true_eq] at h
  exact ⟨h.1, h.2.1, h.2.2.1, h.2.2.2.1, h.2.2.2.2⟩
/-- What is put is read. -/
theorem opR_put (b rest : List Int) (a : Nat) (o : S39) (ha : a ≤ b.length) (hd : b.drop a = opB o ++ rest) (hm : mayB o = true) (h0 : 0 ≤ o.f3) (h64 : o.f3 < 18446744073709551616) :
    rd b (a : Int) = o.f0 ∧ opR (hasK o.f0) b a = some (o, a + (opB o).length) := by
  obtain ⟨⟨k0, k1⟩, w1, w2, w4, w3⟩ := mayB_parts hm
  unfold opB at hd ⊢
  generalize hh : hasK o.f0 = h at *
  rw [opH_eq] at hd ⊢
  have r0 := rd_of_drop hd
  have s0 := drop_of_drop (L := (e1 h.1 o.f1 ++ (e8 h.2.1 o.f3 ++ (e1 h.2.2.1 o.f2 ++ e4 h.2.2.2 o.f4))) ++ rest) hd
  rw [show o.f0 % 256 = o.f0 by omega] at r0
  have hlen := len_of_drop hd ha
  simp only [List.length_append, List.length_cons] at hlen
  refine ⟨r0, ?_⟩
  rw [opR_eq, r0]
  rw [List.append_assoc] at s0
  have t1 : (if h.1 = true ∧ b.length ≤ a + 1 then none else d0 b h.2.1 h.2.2.1 h.2.2.2 o.f0 (if h.1 = true then rd b ((a + 1 : Nat) : Int) else 0) 0 0 (if h.1 = true then a + 1 + 1 else a + 1)) = d0 b h.2.1 h.2.2.1 h.2.2.2 o.f0 o.f1 0 0 (a + 1 + (e1 h.1 o.f1).length) := by
    unfold e1 at s0 hlen ⊢
    cases hb : h.1 with
    | false =>
      rw [hb] at w1
      have := wB_false w1
      rw [if_neg (by simp), if_neg (by simp), if_neg (by simp), this]
      rfl
    | true =>
      rw [hb] at w1 s0 hlen
      have hb1 := wB_true w1
      rw [if_pos rfl] at s0 hlen
      have r1 := rd_of_drop (x := o.f1 % 256) s0
      simp only [List.length_cons, List.length_nil] at hlen
      rw [if_neg (by rintro ⟨_, h⟩; omega), if_pos rfl, if_pos rfl, r1, show o.f1 % 256 = o.f1 by omega]
      rfl
  rw [t1]
  have s1 := drop_of_app s0
  have l1 : a + 1 + (e1 h.1 o.f1).length ≤ b.length := by omega
  rw [List.append_assoc] at s1
  obtain ⟨t2, s2, l2⟩ := d0_put b _ h.2.1 h.2.2.1 h.2.2.2 o.f0 o.f1 o.f3 _ l1 s1 h0 h64 w3
  rw [t2]
  rw [List.append_assoc] at s2
  obtain ⟨t3, s3, l3⟩ := d1_put b _ h.2.2.1 h.2.2.2 o.f0 o.f1 o.f2 o.f3 _ l2 s2 w2
  rw [t3, d2_put b rest o.f4 h.2.2.2 o.f0 o.f1 o.f2 o.f3 _ l3 s3 w4]
  congr 2
  simp only [List.length_append, List.length_cons]
  omega
theorem d2_inv {b : List Int} (hB : isBytes b) {h3 : Bool} {x0 x1 x2 x3 : Int} {r r' : Nat} {o : S39} (hr : r ≤ b.length) (h : d2 b h3 x0 x1 x2 x3 r = some (o, r')) :
    o.f0 = x0 ∧ o.f1 = x1 ∧ o.f2 = x2 ∧ o.f3 = x3 ∧ wB (o.f4.length : Int) h3 = true ∧ b.drop r = e4 h3 o.f4 ++ b.drop r' ∧ r ≤ r' ∧ r' ≤ b.length := by
  unfold d2 at h
  cases h3 with
  | false =>
    rw [if_neg (by decide)] at h
    injection h with h
    injection h with h1 h2
    subst h1
    subst h2
    exact ⟨rfl, rfl, rfl, rfl, rfl, rfl, Nat.le_refl _, hr⟩
  | true =>
    rw [if_pos rfl] at h
    split at h
    · cases h
    rename_i hc
    split at h
    · cases h
    rename_i hc2
    injection h with h
    injection h with h1 h2
    subst h1
    subst h2
    have hx := rd_byte hB r (by omega)
    have hl : ((b.drop (r + 1)).take (rd b (r : Int)).toNat).length = (rd b (r : Int)).toNat := by rw [List.length_take, List.length_drop]; omega
    refine ⟨rfl, rfl, rfl, rfl, ?_, ?_, by omega, by omega⟩
    · show wB ((((b.drop (r + 1)).take (rd b (r : Int)).toNat).length : Nat) : Int) true = true
      rw [hl]
      exact wB_mk (by omega) (by omega)
    · show b.drop r = e4 true ((b.drop (r + 1)).take (rd b (r : Int)).toNat) ++ _
      unfold e4
      rw [if_pos rfl, hl, cons_drop (show r < b.length by omega), show (((rd b (r : Int)).toNat : Nat) : Int) % 256 = rd b (r : Int) by omega]
      simp only [List.cons_append, List.nil_append]
      congr 1
      conv => lhs; rw [← List.take_append_drop (rd b (r : Int)).toNat (b.drop (r + 1))]
      rw [List.drop_drop]
theorem d1_inv {b : List Int} (hB : isBytes b) {h2 h3 : Bool} {x0 x1 x3 : Int} {q r' : Nat} {o : S39} (hq : q ≤ b.length) (h : d1 b h2 h3 x0 x1 0 x3 q = some (o, r')) :
    o.f0 = x0 ∧ o.f1 = x1 ∧ wB o.f2 h2 = true ∧ o.f3 = x3 ∧ wB (o.f4.length : Int) h3 = true ∧ b.drop q = e1 h2 o.f2 ++ (e4 h3 o.f4 ++ b.drop r') ∧ q ≤ r' ∧ r' ≤ b.length := by
  unfold d1 at h
  split at h
  · cases h
  rename_i hc
  cases h2 with
  | false =>
    rw [if_neg (by decide), if_neg (by decide)] at h
    obtain ⟨a0, a1, a2, a3, a4, a5, a6, a7⟩ := d2_inv hB hq h
    exact ⟨a0, a1, by rw [a2]; rfl, a3, a4, a5, a6, a7⟩
  | true =>
    rw [if_pos rfl, if_pos rfl] at h
    have hq' : q < b.length := by
      apply Classical.byContradiction
      intro hn
      exact hc ⟨rfl, by omega⟩
    have hx := rd_byte hB q hq'
    obtain ⟨a0, a1, a2, a3, a4, a5, a6, a7⟩ := d2_inv hB (by omega) h
    refine ⟨a0, a1, by rw [a2]; exact wB_mk (by omega) (by omega), a3, a4, ?_, by omega, a7⟩
    rw [cons_drop hq', a5, a2]
    unfold e1
    rw [if_pos rfl, show rd b (q : Int) % 256 = rd b (q : Int) by omega]
    rfl
theorem d0_inv {b : List Int} (hB : isBytes b) {h1 h2 h3 : Bool} {x0 x1 : Int} {p r' : Nat} {o : S39} (hp : p ≤ b.length) (h : d0 b h1 h2 h3 x0 x1 0 0 p = some (o, r')) :
    o.f0 = x0 ∧ o.f1 = x1 ∧ wB o.f2 h2 = true ∧ ((0 ≤ o.f3 ∧ o.f3 < 18446744073709551616) ∧ (h1 = true ∨ o.f3 = 0)) ∧ wB (o.f4.length : Int) h3 = true ∧ b.drop p = e8 h1 o.f3 ++ (e1 h2 o.f2 ++ (e4 h3 o.f4 ++ b.drop r')) ∧ p ≤ r' ∧ r' ≤ b.length := by
  unfold d0 at h
  split at h
  · cases h
  rename_i hc
  cases h1 with
  | false =>
    rw [if_neg (by decide), if_neg (by decide)] at h
    obtain ⟨a0, a1, a2, a3, a4, a5, a6, a7⟩ := d1_inv hB hp h
    exact ⟨a0, a1, a2, by rw [a3]; exact ⟨⟨by omega, by omega⟩, .inr rfl⟩, a4, a5, a6, a7⟩
  | true =>
    rw [if_pos rfl, if_pos rfl] at h
    have hp' : p + 8 ≤ b.length := by
      apply Classical.byContradiction
      intro hn
      exact hc ⟨rfl, by omega⟩
    have hlen : ((b.drop p).take 8).length = 8 := by rw [List.length_take, List.length_drop]; omega
    have hB8 : isBytes ((b.drop p).take 8) := (hB.drop p).take 8
    have hv := val_lt hB8
    rw [hlen, show (256 : Nat) ^ 8 = 18446744073709551616 by decide] at hv
    have hlv := le_val hB8
    rw [hlen] at hlv
    obtain ⟨a0, a1, a2, a3, a4, a5, a6, a7⟩ := d1_inv hB (by omega) h
    refine ⟨a0, a1, a2, by rw [a3]; exact ⟨⟨by omega, by omega⟩, .inl rfl⟩, a4, ?_, by omega, a7⟩
    rw [← a5, a3]
    unfold e8
    rw [if_pos rfl, Int.toNat_natCast, hlv, ← List.drop_drop, List.take_append_drop]
/-- What is read, put again. -/
theorem opR_inv {b : List Int} (hB : isBytes b) {a r' : Nat} {o : S39} (ha : a < b.length) (hx : rd b (a : Int) ≤ 10) (h : opR (hasK (rd b (a : Int))) b a = some (o, r')) :
    mayB o = true ∧ (0 ≤ o.f3 ∧ o.f3 < 18446744073709551616) ∧ b.drop a = opB o ++ b.drop r' ∧ a < r' ∧ r' ≤ b.length := by
  have hx0 := rd_byte hB a ha
  have hc := cons_drop ha
  unfold mayB opB
  rw [opR_eq] at h
  generalize rd b (a : Int) = x at *
  split at h
  · cases h
  rename_i hc1
  have key : ∀ (x1 : Int) (p : Nat), p ≤ b.length → d0 b (hasK x).2.1 (hasK x).2.2.1 (hasK x).2.2.2 x x1 0 0 p = some (o, r') → wB x1 (hasK x).1 = true → a + 1 ≤ p → b.drop (a + 1) = e1 (hasK x).1 x1 ++ b.drop p →
      (decide (0 ≤ o.f0 ∧ o.f0 ≤ 10) && (wB o.f1 (hasK o.f0).1 && (wB o.f2 (hasK o.f0).2.2.1 && (wB (o.f4.length : Int) (hasK o.f0).2.2.2 && ((hasK o.f0).2.1 || decide (o.f3 = 0)))))) = true ∧ (0 ≤ o.f3 ∧ o.f3 < 18446744073709551616) ∧ b.drop a = opH (hasK o.f0) o ++ b.drop r' ∧ a < r' ∧ r' ≤ b.length := by
    intro x1 p hp hd hw hap he
    obtain ⟨a0, a1, a2, a3, a4, a5, a6, a7⟩ := d0_inv hB hp hd
    rw [a0]
    refine ⟨?_, a3.1, ?_, by omega, a7⟩
    · rw [a1, hw, a2, a4, decide_eq_true ⟨hx0.1, hx⟩]
      simpa using a3.2
    · rw [opH_eq, a0, a1, hc, he, a5, show x % 256 = x by omega]
      simp only [List.cons_append, List.append_assoc]
  cases hb : (hasK x).1 with
  | false =>
    rw [hb, if_neg (by decide), if_neg (by decide)] at h
    exact key 0 (a + 1) (by omega) h (by rw [hb]; rfl) (Nat.le_refl _) (by rw [hb]; rfl)
  | true =>
    rw [hb, if_pos rfl, if_pos rfl] at h
    have h1 : a + 1 < b.length := by
      apply Classical.byContradiction
      intro hn
      exact hc1 ⟨hb, by omega⟩
    have hx1 := rd_byte hB (a + 1) h1
    refine key _ (a + 1 + 1) (by omega) h (by rw [hb]; exact wB_mk (by omega) (by omega)) (by omega) ?_
    rw [hb, cons_drop h1]
    unfold e1
    rw [if_pos rfl, show rd b ((a + 1 : Nat) : Int) % 256 = rd b ((a + 1 : Nat) : Int) by omega]
    rfl
def OkL (l : List S39) : Prop := ∀ o ∈ l, mayB o = true ∧ 0 ≤ o.f3 ∧ o.f3 < 18446744073709551616
theorem OkL.cons {o : S39} {l : List S39} (h : OkL (o :: l)) : (mayB o = true ∧ 0 ≤ o.f3 ∧ o.f3 < 18446744073709551616) ∧ OkL l := ⟨h o (List.mem_cons_self ..), fun q hq => h q (List.mem_cons_of_mem _ hq)⟩
theorem opB_pos (o : S39) : 0 < (opB o).length := by
  unfold opB
  rw [opH_eq]
  simp
theorem opsB_cons (o : S39) (l : List S39) : opsB (o :: l) = opB o ++ opsB l := rfl
theorem opsR_put (b : List Int) (cf : Int × Int × Int × Int) (ch : List Bool) : ∀ (l : List S39) (q : Nat) (acc : List S39) (a : Nat), b.drop a = opsB l → a ≤ b.length → OkL l → acc.length + l.length ≤ 400 → l.length < q →
    opsR b cf ch q acc a = (cf, ch, acc ++ l, (b.length : Int), 0) := by
  intro l
  induction l with
  | nil =>
    intro q acc a hd ha ho h4 hq
    obtain ⟨q, rfl⟩ : ∃ m, q = m + 1 := ⟨q - 1, by omega⟩
    have hlen := len_of_drop hd ha
    have e0 : (opsB ([] : List S39)).length = 0 := rfl
    rw [opsR, if_neg (by omega), List.append_nil]
    congr 3
    congr 1
    omega
  | cons o l ih =>
    intro q acc a hd ha ho h4 hq
    obtain ⟨q, rfl⟩ : ∃ m, q = m + 1 := ⟨q - 1, by omega⟩
    rw [opsB_cons] at hd
    have hlen := len_of_drop hd ha
    have hp := opB_pos o
    rw [List.length_append] at hlen
    obtain ⟨⟨hm, h0, h64⟩, hol⟩ := ho.cons
    obtain ⟨g1, g2⟩ := opR_put b _ a o ha hd hm h0 h64
    have hk := (mayB_parts hm).1
    rw [List.length_cons] at h4 hq
    rw [opsR, if_pos (by omega), if_neg (by omega), g1, if_neg (by omega), g2]
    dsimp only
    rw [ih q (acc ++ [o]) (a + (opB o).length) (drop_of_app hd) (by omega) hol (by rw [List.length_append]; simp; omega) (by omega), List.append_assoc]
    rfl
theorem opsR_inv {b : List Int} (hB : isBytes b) (cf : Int × Int × Int × Int) (ch : List Bool) : ∀ (q : Nat) (acc : List S39) (a : Nat), a ≤ b.length → 402 ≤ acc.length + q → acc.length ≤ 400 →
    (∃ l, opsR b cf ch q acc a = (cf, ch, acc ++ l, (b.length : Int), 0) ∧ b.drop a = opsB l ∧ OkL l ∧ (acc ++ l).length ≤ 400) ∨
    (∃ at_ e : Int, opsR b cf ch q acc a = noT at_ e ∧ e ≠ 0 ∧ 0 ≤ at_ ∧ at_ ≤ (b.length : Int)) := by
  intro q
  induction q with
  | zero => intro acc a h1 h2; omega
  | succ q ih =>
    intro acc a h1 h2 h4
    rw [opsR]
    by_cases c : a < b.length
    · rw [if_pos c]
      by_cases c4 : acc.length = 400
      · rw [if_pos c4]
        exact .inr ⟨_, _, rfl, by decide, by omega, by omega⟩
      · rw [if_neg c4]
        by_cases c5 : rd b (a : Int) > 10
        · rw [if_pos c5]
          exact .inr ⟨_, _, rfl, by decide, by omega, by omega⟩
        · rw [if_neg c5]
          cases hr : opR (hasK (rd b (a : Int))) b a with
          | none => exact .inr ⟨_, _, rfl, by decide, by omega, by omega⟩
          | some r =>
            obtain ⟨o, r'⟩ := r
            obtain ⟨g1, g2, g3, g4, g5⟩ := opR_inv hB c (by omega) hr
            dsimp only
            rcases ih (acc ++ [o]) r' g5 (by rw [List.length_append]; simp; omega) (by rw [List.length_append]; simp; omega) with ⟨l, z1, z2, z3, z4⟩ | h
            · refine .inl ⟨o :: l, by rw [z1, List.append_assoc]; rfl, by rw [g3, z2, opsB_cons], ?_, by rw [List.append_assoc] at z4; exact z4⟩
              intro x hx
              rcases List.mem_cons.1 hx with rfl | hx
              · exact ⟨g1, g2.1, g2.2⟩
              · exact z3 x hx
            · exact .inr h
    · rw [if_neg c]
      refine .inl ⟨[], by rw [List.append_nil]; congr 3; congr 1; omega, by rw [List.drop_eq_nil_of_le (by omega)]; rfl, fun x hx => by simp at hx, by rw [List.append_nil]; exact h4⟩
theorem opsB_cut : ∀ (l1 l2 : List S39) (X : List Int), OkL l1 → OkL l2 → opsB l1 ++ X = opsB l2 → X ≠ [] → l1.length < l2.length := by
  intro l1
  induction l1 with
  | nil =>
    intro l2 X h1 h2 he hX
    cases l2 with
    | nil => exact absurd he hX
    | cons o l => simp
  | cons o l1 ih =>
    intro l2 X h1 h2 he hX
    cases l2 with
    | nil =>
      have := congrArg List.length he
      have hp := opB_pos o
      rw [opsB_cons] at this
      simp only [List.length_append] at this
      have e0 : (opsB ([] : List S39)).length = 0 := rfl
      omega
    | cons o2 l2 =>
      rw [opsB_cons, opsB_cons, List.append_assoc] at he
      obtain ⟨⟨m1, p1, q1⟩, hl1⟩ := h1.cons
      obtain ⟨⟨m2, p2, q2⟩, hl2⟩ := h2.cons
      obtain ⟨a1, a2⟩ := opR_put (opB o ++ (opsB l1 ++ X)) (opsB l1 ++ X) 0 o (Nat.zero_le _) rfl m1 p1 q1
      obtain ⟨b1, b2⟩ := opR_put (opB o ++ (opsB l1 ++ X)) (opsB l2) 0 o2 (Nat.zero_le _) (by rw [he]; rfl) m2 p2 q2
      rw [← b1, a1, a2] at b2
      injection b2 with b2
      injection b2 with b2 b3
      subst b2
      have he' := List.append_cancel_left he
      have := ih l2 X hl1 hl2 he' hX
      simp only [List.length_cons]
      omega
theorem bit_eq (x j : Nat) (hx : x < 256) (hj : j < 8) : ((Go.bits .and .u8 (shr .u8 (x : Int) (j : Int)) 1) == 1) = decide (x / 2 ^ j % 2 = 1) := by
  have h : ∀ x : Fin 256, ∀ j : Fin 8, ((Go.bits .and .u8 (shr .u8 (x.val : Int) (j.val : Int)) 1) == 1) = decide (x.val / 2 ^ j.val % 2 = 1) := by decide +kernel
  exact h ⟨x, hx⟩ ⟨j, hj⟩
theorem bitR_eq {b : List Int} (hB : isBytes b) (i : Nat) (hi : 7 + i / 8 < b.length) : bitR b i = decide ((rd b ((7 + i / 8 : Nat) : Int)).toNat / 2 ^ (i % 8) % 2 = 1) := by
  have hx := rd_byte hB (7 + i / 8) hi
  unfold bitR
  rw [← bit_eq _ _ (by omega) (by omega)]
  congr 3
  congr 1
  omega
theorem bv_bit (c : List Bool) (j : Nat) : ∀ (m t : Nat), t < m → bv c j m / 2 ^ t % 2 = bitN c (8 * j + t) := by
  intro m
  induction m with
  | zero => intro t h; omega
  | succ m ih =>
    intro t h
    rw [bv_succ]
    have hp : 0 < 2 ^ t := Nat.two_pow_pos t
    by_cases e : t = m
    · subst e
      rw [Nat.add_mul_div_left _ _ hp, Nat.div_eq_of_lt (bv_lt c j t)]
      have := bitN_le c (8 * j + t)
      omega
    · have e2 : 2 ^ m = 2 ^ t * (2 * 2 ^ (m - t - 1)) := by
        rw [← Nat.mul_assoc, ← Nat.pow_succ, ← Nat.pow_add]
        congr 1
        omega
      rw [e2, Nat.mul_assoc, Nat.add_mul_div_left _ _ hp, Nat.mul_assoc, Nat.add_mul_mod_self_left]
      exact ih t (by omega)
theorem bitN_iff (c : List Bool) (i : Nat) : decide (bitN c i = 1) = c.getD i false := by
  unfold bitN
  cases c.getD i false <;> rfl
theorem byte_eq (x y : Nat) (hx : x < 256) (hy : y < 256) (h : ∀ t, t < 8 → x / 2 ^ t % 2 = y / 2 ^ t % 2) : x = y := by
  have h0 := h 0 (by omega)
  have h1 := h 1 (by omega)
  have h2 := h 2 (by omega)
  have h3 := h 3 (by omega)
  have h4 := h 4 (by omega)
  have h5 := h 5 (by omega)
  have h6 := h 6 (by omega)
  have h7 := h 7 (by omega)
  simp only [Nat.reducePow, Nat.div_one] at h0 h1 h2 h3 h4 h5 h6 h7
  omega
theorem chR_put (b : List Int) (c : List Bool) (m : Nat) (hm : c.length ≤ m) (hb : ∀ i, i < m → bitR b i = c.getD i false) : ∀ (d q i : Nat), i + d = m → d < q → chR b c.length m q i (c.take i) = some c := by
  intro d
  induction d with
  | zero =>
    intro q i h1 h2
    obtain ⟨q, rfl⟩ : ∃ k, q = k + 1 := ⟨q - 1, by omega⟩
    rw [chR, if_neg (by omega), List.take_of_length_le (by omega)]
  | succ d ih =>
    intro q i h1 h2
    obtain ⟨q, rfl⟩ : ∃ k, q = k + 1 := ⟨q - 1, by omega⟩
    have hn := ih q (i + 1) (by omega) (by omega)
    rw [chR, if_pos (by omega), hb i (by omega)]
    by_cases hi : i < c.length
    · rw [if_pos hi]
      rw [List.take_succ_eq_append_getElem hi] at hn
      rw [List.getD_eq_getElem?_getD, List.getElem?_eq_getElem hi]
      exact hn
    · rw [if_neg hi]
      rw [List.take_of_length_le (by omega)] at hn ⊢
      rw [List.getD_eq_getElem?_getD, List.getElem?_eq_none (by omega)]
      exact hn
theorem chR_inv (b : List Int) (n m : Nat) (hm : n ≤ m) : ∀ (q i : Nat) (acc ch : List Bool), chR b n m q i acc = some ch → acc.length = min i n → i ≤ m → (∀ j, j < i → bitR b j = acc.getD j false) → ch.length = n ∧ ∀ j, j < m → bitR b j = ch.getD j false := by
  intro q
  induction q with
  | zero => intro i acc ch h; simp [chR] at h
  | succ q ih =>
    intro i acc ch h ha hi hb
    rw [chR] at h
    by_cases c : i < m
    · rw [if_pos c] at h
      by_cases c2 : i < n
      · rw [if_pos c2] at h
        refine ih (i + 1) _ ch h (by rw [List.length_append]; simp; omega) (by omega) (fun j hj => ?_)
        by_cases e : j < i
        · rw [hb j e, List.getD_eq_getElem?_getD, List.getD_eq_getElem?_getD, List.getElem?_append_left (by omega)]
        · obtain rfl : j = i := by omega
          rw [List.getD_eq_getElem?_getD, List.getElem?_append_right (by omega), show j - acc.length = 0 by omega]
          rfl
      · rw [if_neg c2] at h
        cases hbit : bitR b i with
        | true =>
          rw [hbit, if_pos rfl] at h
          cases h
        | false =>
          rw [hbit, if_neg (by decide)] at h
          refine ih (i + 1) acc ch h (by omega) (by omega) (fun j hj => ?_)
          by_cases e : j < i
          · exact hb j e
          · obtain rfl : j = i := by omega
            rw [hbit, List.getD_eq_getElem?_getD, List.getElem?_eq_none (by omega)]
            rfl
    · rw [if_neg c] at h
      injection h with h
      subst h
      exact ⟨by omega, fun j hj => hb j (by omega)⟩
theorem chB_at (c : List Bool) (j : Nat) (h : j < chN c) : (chB c)[j]? = some ((bv c j 8 : Nat) : Int) := by
  rw [List.getElem?_eq_getElem (by rw [chB_length]; exact h)]
  simp [chB]
theorem rightI_zero {a0 a1 a2 a3 : Int} {c : List Bool} {l : List S39} : rightI a0 a1 a2 a3 c l = 0 ↔ ((8 ≤ a0 ∧ a0 ≤ 96 ∧ 0 ≤ a1 ∧ a1 ≤ 128 ∧ 4 ≤ a2 ∧ a2 ≤ 96 ∧ 1 ≤ a3 ∧ a3 ≤ 100) ∧ c.length ≤ 4000 ∧ l.length ≤ 400 ∧ ∀ o ∈ l, mayB o = true) := by
  unfold rightI
  by_cases h : 8 ≤ a0 ∧ a0 ≤ 96 ∧ 0 ≤ a1 ∧ a1 ≤ 128 ∧ 4 ≤ a2 ∧ a2 ≤ 96 ∧ 1 ≤ a3 ∧ a3 ≤ 100
  · rw [if_pos h]
    by_cases h2 : 4000 < c.length ∨ 400 < l.length
    · rw [if_pos h2]
      exact ⟨fun e => absurd e (by decide), fun e => by omega⟩
    · rw [if_neg h2]
      cases h3 : l.any (fun o => !mayB o) with
      | true =>
        rw [if_pos rfl]
        refine ⟨fun e => absurd e (by decide), fun e => ?_⟩
        rw [List.any_eq_true] at h3
        obtain ⟨o, ho, hx⟩ := h3
        rw [e.2.2.2 o ho] at hx
        cases hx
      | false =>
        rw [if_neg (by decide)]
        refine ⟨fun _ => ⟨h, by omega, by omega, fun o ho => ?_⟩, fun _ => rfl⟩
        rw [List.any_eq_false] at h3
        have := h3 o ho
        simpa using this
  · rw [if_neg h]
    exact ⟨fun e => absurd e (by decide), fun e => absurd e.1 h⟩
def putB (a0 a1 a2 a3 : Int) (c : List Bool) (l : List S39) : List Int := hdr a0 a1 a2 a3 c.length ++ chB c ++ opsB l
theorem hdr_length (a0 a1 a2 a3 : Int) (n : Nat) : (hdr a0 a1 a2 a3 n).length = 7 := rfl
theorem putB_length (a0 a1 a2 a3 : Int) (c : List Bool) (l : List S39) : (putB a0 a1 a2 a3 c l).length = 7 + chN c + (opsB l).length := by
  unfold putB
  rw [List.length_append, List.length_append, chB_length, hdr_length]
theorem isBytes_chB (c : List Bool) : isBytes (chB c) := fun x hx => by
  simp only [chB, List.mem_map] at hx
  obtain ⟨j, _, rfl⟩ := hx
  have := bv_lt c j 8
  omega
theorem isBytes_opB (o : S39) (h : isBytes o.f4) : isBytes (opB o) := by
  have hm : ∀ x : Int, 0 ≤ x % 256 ∧ x % 256 < 256 := fun x => by omega
  have h1 : ∀ (q : Bool) (x : Int), isBytes (e1 q x) := fun q x y hy => by
    unfold e1 at hy
    cases q with
    | false => simp at hy
    | true => simp only [if_true, List.mem_singleton] at hy; rw [hy]; exact hm x
  have h8 : ∀ (q : Bool) (x : Int), isBytes (e8 q x) := fun q x y hy => by
    unfold e8 at hy
    cases q with
    | false => simp at hy
    | true => exact isBytes.le 8 x.toNat y (by simpa using hy)
  have h4 : ∀ q : Bool, isBytes (e4 q o.f4) := fun q y hy => by
    unfold e4 at hy
    cases q with
    | false => simp at hy
    | true =>
      rw [if_pos rfl] at hy
      rcases List.mem_cons.1 hy with rfl | hy
      · exact hm _
      · exact h y hy
  unfold opB
  rw [opH_eq]
  intro y hy
  rcases List.mem_cons.1 hy with rfl | hy
  · exact hm _
  · exact ((h1 _ _).app ((h8 _ _).app ((h1 _ _).app (h4 _)))) y hy
theorem isBytes_putB (a0 a1 a2 a3 : Int) (c : List Bool) (l : List S39) (h : ∀ o ∈ l, isBytes o.f4) : isBytes (putB a0 a1 a2 a3 c l) := by
  unfold putB
  refine isBytes.app (isBytes.app (fun x hx => ?_) (isBytes_chB c)) (fun x hx => ?_)
  · simp only [hdr, List.mem_cons, List.not_mem_nil, or_false] at hx
    rcases hx with rfl | rfl | rfl | rfl | rfl | rfl | rfl <;> omega
  · simp only [opsB, List.mem_flatten, List.mem_map] at hx
    obtain ⟨L, ⟨o, ho, rfl⟩, hx⟩ := hx
    exact isBytes_opB o (h o ho) x hx
/-- What is put is taken. -/
theorem refT_put (a0 a1 a2 a3 : Int) (c : List Bool) (l : List S39) (hr : rightI a0 a1 a2 a3 c l = 0) (hd : ∀ o ∈ l, (0 ≤ o.f3 ∧ o.f3 < 18446744073709551616) ∧ isBytes o.f4) :
    refT (putB a0 a1 a2 a3 c l) = ((a0, a1, a2, a3), c, l, ((putB a0 a1 a2 a3 c l).length : Int), 0) := by
  obtain ⟨hc, h4, h40, hm⟩ := rightI_zero.1 hr
  have hB := isBytes_putB a0 a1 a2 a3 c l (fun o ho => (hd o ho).2)
  have hlen := putB_length a0 a1 a2 a3 c l
  have r : ∀ (j : Nat) (x : Int), (hdr a0 a1 a2 a3 c.length)[j]? = some x → rd (putB a0 a1 a2 a3 c l) (j : Int) = x := by
    intro j x hx
    have hj : j < 7 := by
      have := (List.getElem?_eq_some_iff.1 hx).1
      exact this
    unfold rd putB
    rw [Int.toNat_natCast, List.getD_eq_getElem?_getD, List.append_assoc, List.getElem?_append_left (by rw [hdr_length]; exact hj), hx]
    rfl
  have r0 := r 0 _ rfl
  have r1 := r 1 _ rfl
  have r2 := r 2 _ rfl
  have r3 := r 3 _ rfl
  have r4 := r 4 _ rfl
  have r5 := r 5 _ rfl
  have r6 := r 6 _ rfl
  have rch : ∀ j, j < chN c → rd (putB a0 a1 a2 a3 c l) ((7 + j : Nat) : Int) = ((bv c j 8 : Nat) : Int) := by
    intro j hj
    unfold rd putB
    rw [Int.toNat_natCast, List.getD_eq_getElem?_getD, List.append_assoc, List.getElem?_append_right (by rw [hdr_length]; omega), hdr_length, show 7 + j - 7 = j by omega, List.getElem?_append_left (by rw [chB_length]; exact hj), chB_at c j hj]
    rfl
  have hdrop : (putB a0 a1 a2 a3 c l).drop (7 + chN c) = opsB l := by
    unfold putB
    exact List.drop_left' (by rw [List.length_append, hdr_length, chB_length])
  generalize putB a0 a1 a2 a3 c l = b at *
  have e1 : rd b 1 = a0 := by rw [show (1 : Int) = ((1 : Nat) : Int) from rfl, r1]; omega
  have e2 : rd b 2 = a1 := by rw [show (2 : Int) = ((2 : Nat) : Int) from rfl, r2]; omega
  have e3 : rd b 3 = a2 := by rw [show (3 : Int) = ((3 : Nat) : Int) from rfl, r3]; omega
  have e4 : rd b 4 = a3 := by rw [show (4 : Int) = ((4 : Nat) : Int) from rfl, r4]; omega
  have hcB : confB (a0, a1, a2, a3) = true := by unfold confB; exact decide_eq_true hc
  rw [refT_tail b (by omega) r0 (by rw [e1, e2, e3, e4]; exact hcB), e1, e2, e3, e4]
  have en : (rd b 5 + 256 * rd b 6).toNat = c.length := by
    rw [show (5 : Int) = ((5 : Nat) : Int) from rfl, show (6 : Int) = ((6 : Nat) : Int) from rfl, r5, r6]
    omega
  unfold tailT
  rw [en, if_neg (by omega), if_neg (by omega)]
  have hN : (c.length + 7) / 8 = chN c := rfl
  rw [hN, if_neg (by omega)]
  have hm8 : c.length ≤ 8 * chN c := by unfold chN; omega
  have hbits : ∀ i, i < 8 * chN c → bitR b i = c.getD i false := by
    intro i hi
    rw [bitR_eq hB i (by omega), rch (i / 8) (by omega), Int.toNat_natCast, bv_bit c (i / 8) 8 (i % 8) (by omega), show 8 * (i / 8) + i % 8 = i by omega, bitN_iff]
  have hch := chR_put b c (8 * chN c) hm8 hbits (8 * chN c) 4010 0 (by omega) (by unfold chN; omega)
  rw [List.take_zero] at hch
  rw [hch]
  show opsR b _ c 9010 [] (7 + chN c) = _
  rw [opsR_put b _ c l 9010 [] (7 + chN c) hdrop (by omega) (fun o ho => ⟨hm o ho, (hd o ho).1⟩) (by simpa using h40) (by omega)]
  rfl
/-- What is taken, put again; or why nothing is. -/
theorem refT_inv (b : List Int) (hB : isBytes b) :
    (∃ a0 a1 a2 a3 c l, refT b = ((a0, a1, a2, a3), c, l, (b.length : Int), 0) ∧ rightI a0 a1 a2 a3 c l = 0 ∧ putB a0 a1 a2 a3 c l = b ∧ OkL l) ∨
    (∃ at_ e : Int, refT b = noT at_ e ∧ e ≠ 0 ∧ 0 ≤ at_ ∧ at_ ≤ (b.length : Int)) := by
  unfold refT
  by_cases c1 : b.length < 1
  · rw [if_pos c1]
    exact .inr ⟨_, _, rfl, by decide, by omega, by omega⟩
  rw [if_neg c1]
  by_cases c2 : rd b 0 ≠ 71
  · rw [if_pos c2]
    exact .inr ⟨_, _, rfl, by decide, by omega, by omega⟩
  rw [if_neg c2]
  by_cases c3 : b.length < 5
  · rw [if_pos c3]
    exact .inr ⟨_, _, rfl, by decide, by omega, by omega⟩
  rw [if_neg c3]
  dsimp only
  by_cases c4 : confB (rd b 1, rd b 2, rd b 3, rd b 4) = false
  · rw [if_pos c4]
    exact .inr ⟨_, _, rfl, by decide, by omega, by omega⟩
  rw [if_neg c4]
  by_cases c5 : b.length < 7
  · rw [if_pos c5]
    exact .inr ⟨_, _, rfl, by decide, by omega, by omega⟩
  rw [if_neg c5]
  have x5 : 0 ≤ rd b 5 ∧ rd b 5 < 256 := rd_byte hB 5 (by omega)
  have x6 : 0 ≤ rd b 6 ∧ rd b 6 < 256 := rd_byte hB 6 (by omega)
  have x1 : 0 ≤ rd b 1 ∧ rd b 1 < 256 := rd_byte hB 1 (by omega)
  have x2 : 0 ≤ rd b 2 ∧ rd b 2 < 256 := rd_byte hB 2 (by omega)
  have x3 : 0 ≤ rd b 3 ∧ rd b 3 < 256 := rd_byte hB 3 (by omega)
  have x4 : 0 ≤ rd b 4 ∧ rd b 4 < 256 := rd_byte hB 4 (by omega)
  obtain ⟨n, hn⟩ : ∃ n, n = (rd b 5 + 256 * rd b 6).toNat := ⟨_, rfl⟩
  rw [← hn]
  by_cases c6 : 4000 < n
  · rw [if_pos c6]
    exact .inr ⟨_, _, rfl, by decide, by omega, by omega⟩
  rw [if_neg c6]
  by_cases c7 : b.length < 7 + (n + 7) / 8
  · rw [if_pos c7]
    exact .inr ⟨_, _, rfl, by decide, by omega, by omega⟩
  rw [if_neg c7]
  cases hch : chR b n (8 * ((n + 7) / 8)) 4010 0 [] with
  | none =>
    show (∃ _, _) ∨ (∃ at_ e : Int, noT (((7 + (n + 7) / 8 : Nat) : Int) - 1) 3 = noT at_ e ∧ _)
    exact .inr ⟨_, _, rfl, by decide, by omega, by omega⟩
  | some ch =>
    obtain ⟨k1, k2⟩ := chR_inv b n (8 * ((n + 7) / 8)) (by omega) 4010 0 [] ch hch (by simp) (by omega) (fun j hj => by omega)
    show (∃ a0 a1 a2 a3 c l, opsR b (rd b 1, rd b 2, rd b 3, rd b 4) ch 9010 [] (7 + (n + 7) / 8) = ((a0, a1, a2, a3), c, l, (b.length : Int), 0) ∧ _) ∨ (∃ at_ e : Int, opsR b (rd b 1, rd b 2, rd b 3, rd b 4) ch 9010 [] (7 + (n + 7) / 8) = noT at_ e ∧ _)
    rcases opsR_inv hB (rd b 1, rd b 2, rd b 3, rd b 4) ch 9010 [] (7 + (n + 7) / 8) (by omega) (by simp) (by simp) with ⟨l, z1, z2, z3, z4⟩ | h
    · refine .inl ⟨rd b 1, rd b 2, rd b 3, rd b 4, ch, l, z1, ?_, ?_, z3⟩
      · have hc : confB (rd b 1, rd b 2, rd b 3, rd b 4) = true := by simpa using c4
        unfold confB at hc
        exact rightI_zero.2 ⟨of_decide_eq_true hc, by omega, by simpa using z4, fun o ho => (z3 o ho).1⟩
      · have hchB : chB ch = (b.drop 7).take ((n + 7) / 8) := by
          have hN : chN ch = (n + 7) / 8 := by unfold chN; rw [k1]
          refine List.ext_getElem? (fun j => ?_)
          by_cases hj : j < (n + 7) / 8
          · have hjb : 7 + j < b.length := by omega
            have hx := rd_byte hB (7 + j) hjb
            rw [chB_at ch j (by omega), List.getElem?_take_of_lt hj, List.getElem?_drop, List.getElem?_eq_getElem hjb, ← rd_at b (7 + j) hjb]
            congr 1
            have := byte_eq (bv ch j 8) (rd b ((7 + j : Nat) : Int)).toNat (bv_lt ch j 8) (by omega) (fun t ht => by
              have hk := k2 (8 * j + t) (by omega)
              rw [bitR_eq hB (8 * j + t) (by omega), ← bitN_iff, show (8 * j + t) / 8 = j by omega, show (8 * j + t) % 8 = t by omega] at hk
              rw [bv_bit ch j 8 t ht]
              have hle := bitN_le ch (8 * j + t)
              have h2 := Nat.mod_lt ((rd b ((7 + j : Nat) : Int)).toNat / 2 ^ t) (show 0 < 2 by decide)
              rw [decide_eq_decide] at hk
              omega)
            omega
          · rw [List.getElem?_eq_none (by rw [chB_length]; omega), List.getElem?_eq_none (by rw [List.length_take]; omega)]
        have h7 : hdr (rd b 1) (rd b 2) (rd b 3) (rd b 4) ch.length = b.take 7 := by
          have e0 : rd b 0 = 71 := by simpa using c2
          have q0 : b[0]? = some 71 := by rw [List.getElem?_eq_getElem (by omega), ← rd_at b 0 (by omega)]; exact congrArg some e0
          have q : ∀ j : Nat, j < b.length → b[j]? = some (rd b (j : Int)) := fun j hj => by rw [List.getElem?_eq_getElem hj, ← rd_at b j hj]
          refine List.ext_getElem? (fun j => ?_)
          rw [List.getElem?_take]
          by_cases hj : j < 7
          · rw [if_pos hj]
            rcases (show j = 0 ∨ j = 1 ∨ j = 2 ∨ j = 3 ∨ j = 4 ∨ j = 5 ∨ j = 6 by omega) with rfl | rfl | rfl | rfl | rfl | rfl | rfl
            · exact q0.symm
            · rw [q 1 (by omega)]; exact congrArg some (show rd b 1 % 256 = rd b 1 by omega)
            · rw [q 2 (by omega)]; exact congrArg some (show rd b 2 % 256 = rd b 2 by omega)
            · rw [q 3 (by omega)]; exact congrArg some (show rd b 3 % 256 = rd b 3 by omega)
            · rw [q 4 (by omega)]; exact congrArg some (show rd b 4 % 256 = rd b 4 by omega)
            · rw [q 5 (by omega)]; exact congrArg some (show (ch.length : Int) % 256 = rd b 5 by rw [k1]; omega)
            · rw [q 6 (by omega)]; exact congrArg some (show ((ch.length / 256 : Nat) : Int) % 256 = rd b 6 by rw [k1]; omega)
          · rw [if_neg hj, List.getElem?_eq_none (by rw [hdr_length]; omega)]
        unfold putB
        rw [h7, hchB, ← z2, ← List.drop_drop, List.append_assoc, List.take_append_drop, List.take_append_drop]
    · exact .inr h
/-- Cut off there are fewer ops, or none. -/
theorem refT_cut (a0 a1 a2 a3 : Int) (c : List Bool) (l : List S39) (hr : rightI a0 a1 a2 a3 c l = 0) (hd : ∀ o ∈ l, (0 ≤ o.f3 ∧ o.f3 < 18446744073709551616) ∧ isBytes o.f4) (n : Nat) (hn : n < (putB a0 a1 a2 a3 c l).length) (he : (refT ((putB a0 a1 a2 a3 c l).take n)).2.2.2.2 = 0) :
    (refT ((putB a0 a1 a2 a3 c l).take n)).2.2.1.length < l.length := by
  have hB := isBytes_putB a0 a1 a2 a3 c l (fun o ho => (hd o ho).2)
  obtain ⟨_, h4, _, hm⟩ := rightI_zero.1 hr
  rcases refT_inv ((putB a0 a1 a2 a3 c l).take n) (hB.take n) with ⟨b0, b1, b2, b3, c', l', z1, z2, z3, z4⟩ | ⟨at_, e, z1, z2, _⟩
  · rw [z1]
    show l'.length < l.length
    obtain ⟨_, g4, _, _⟩ := rightI_zero.1 z2
    have hX : (putB a0 a1 a2 a3 c l).drop n ≠ [] := by
      intro h
      have := congrArg List.length h
      rw [List.length_drop] at this
      simp at this
      omega
    have hall : putB b0 b1 b2 b3 c' l' ++ (putB a0 a1 a2 a3 c l).drop n = putB a0 a1 a2 a3 c l := by rw [z3, List.take_append_drop]
    generalize (putB a0 a1 a2 a3 c l).drop n = X at hX hall
    unfold putB at hall
    simp only [List.append_assoc] at hall
    obtain ⟨y1, y2⟩ := List.append_inj hall rfl
    have hlen : c'.length = c.length := by
      unfold hdr at y1
      injection y1 with _ y1
      injection y1 with _ y1
      injection y1 with _ y1
      injection y1 with _ y1
      injection y1 with _ y1
      injection y1 with y5 y1
      injection y1 with y6 y1
      omega
    obtain ⟨y3, y4⟩ := List.append_inj y2 (by rw [chB_length, chB_length]; unfold chN; rw [hlen])
    exact opsB_cut l' l X z4 (fun o ho => ⟨hm o ho, (hd o ho).1⟩) y4 hX
  · rw [z1] at he
    exact absurd he z2
theorem len_of_may {o : S39} (h : mayB o = true) : o.f4.length ≤ 300 := by
  obtain ⟨_, _, _, w4, _⟩ := mayB_parts h
  cases hh : (hasK o.f0).2.2.2 with
  | true => rw [hh] at w4; have := wB_true w4; omega
  | false => rw [hh] at w4; have := wB_false w4; omega
theorem opsB_le : ∀ (l : List S39), (∀ o ∈ l, o.f4.length ≤ 300) → (opsB l).length ≤ 400 * l.length := by
  intro l
  induction l with
  | nil => intro _; exact Nat.zero_le _
  | cons o l ih =>
    intro h
    have h1 : (opB o).length ≤ 400 := opH_length (hasK o.f0) o (h o (List.mem_cons_self ..))
    have h2 := ih (fun q hq => h q (List.mem_cons_of_mem _ hq))
    rw [opsB_cons, List.length_append, List.length_cons]
    omega
theorem putB_le (a0 a1 a2 a3 : Int) (c : List Bool) (l : List S39) (h1 : l.length ≤ 500) (h2 : c.length ≤ 4100) (h3 : ∀ o ∈ l, o.f4.length ≤ 300) : (putB a0 a1 a2 a3 c l).length ≤ 300000 := by
  have := opsB_le l h3
  rw [putB_length]
  unfold chN
  omega
set_option maxHeartbeats 8000000 in
set_option maxRecDepth 100000 in
theorem back_law (W : World) (a0 a1 a2 a3 : Int) (A : Option Addr) (c : Nat) (ch : List Bool) (A2 : Option Addr) (c2 : Nat) (ops : List S39) (A3 : Option Addr) (c3 : Nat) (b : List Int) (k : Nat)
    (hC1 : Kd.C Kd.bool W A ch.length ch) (hc1 : ch.length ≤ c) (hC2 : Kd.C k39 W A2 ops.length ops) (hc2 : ops.length ≤ c2) (hC3 : Kd.C (Kd.int .u8) W A3 b.length b) (hc3 : b.length ≤ c3)
    (hd : ∀ o ∈ ops, (0 ≤ o.f3 ∧ o.f3 < 18446744073709551616) ∧ isBytes o.f4) (hB : isBytes b) (hk : k < 65536) :
    Calls Try.prog 6 #[.agg #[.int .i64 a0, .int .i64 a1, .int .i64 a2, .int .i64 a3, .slice A ch.length c, .slice A2 ops.length c2], .slice A3 b.length c3, .int .u16 (k : Int)] W fun e w' => e = .returned (.bool true) ∧ Below W.heap.size W w' := by
  have hL := Aside0.mk (fun w => gunnylaw39_lives.calls 20000 true w (lives_some 20000 (by omega)))
  obtain ⟨S0, hS0⟩ : ∃ S0 : Obj, S0 = .cells #[.int .i64 a0, .int .i64 a1, .int .i64 a2, .int .i64 a3, .slice A ch.length c, .slice A2 ops.length c2] 27 (0, 0) := ⟨_, rfl⟩
  have hb0 := Aside0.mk (below_alloc (Below.refl W.heap.size W) S0)
  have hs0 := blk_new W S0
  have hG := gunnylaw39_Great.calls 20000 a0 a1 a2 a3 A c ch A2 c2 ops _ _ (Kd.C_below hC1 hb0.out) hc1 (Kd.C_below hC2 hb0.out) hc2 (great_some 20000 a0 a1 a2 a3 ch ops (by omega))
  have hcl : ∀ w, Below W.heap.size W w → w.heap[W.heap.size]? = some S0 → (w.cell? ⟨W.heap.size, 0, none⟩ = some (.int .i64 a0) ∧ w.cell? ⟨W.heap.size, 1, none⟩ = some (.int .i64 a1) ∧ w.cell? ⟨W.heap.size, 2, none⟩ = some (.int .i64 a2) ∧ w.cell? ⟨W.heap.size, 3, none⟩ = some (.int .i64 a3) ∧ w.cell? ⟨W.heap.size, 4, none⟩ = some (.slice A ch.length c) ∧ w.cell? ⟨W.heap.size, 5, none⟩ = some (.slice A2 ops.length c2)) := by
    intro w hb hs
    subst hS0
    exact ⟨blk_cell hs 0, blk_cell hs 1, blk_cell hs 2, blk_cell hs 3, blk_cell hs 4, blk_cell hs 5⟩
  obtain ⟨j0, j1, j2, j3, j4, j5⟩ := hcl _ hb0.out hs0
  cases hg : greatB ch.length ops with
  | true =>
    rw [hg] at hG
    replace hG := Aside0.mk hG
    replace hs0 := Aside0.mk hs0
    replace hcl := Aside0.mk hcl
    subst hS0
    clear hg hk hB hd hC1 hC2 hC3 hc1 hc2 hc3
    go_enter Try.func6, Try.ntmps6
    go_wp2_with (first
      | (go_at_call 7; refine hG.out.mono ?_; rintro e w2 ⟨rfl, hb2⟩; have hB2 := Aside0.mk (below_step hb0.out hb2); clear hb2)
      | (go_at_call 8; refine (hL.out _).mono ?_; rintro e w8 ⟨rfl, hb8⟩; replace hb8 := Aside0.mk hb8))
    go_returns
    exact ⟨rfl, below_step hB2.out hb8.out⟩
  | false =>
    rw [hg] at hG
    replace hG := Aside0.mk hG
    obtain ⟨g1, g2, g3⟩ := great_no hg
    clear hg
    by_cases hl : 9000 < b.length
    · have d1 : decide ((b.length : Int) > 9000) = true := decide_eq_true (by omega)
      have d2 : decide (9000 < (b.length : Int)) = true := decide_eq_true (by omega)
      have d3 : decide (9000 < b.length) = true := decide_eq_true hl
      replace hs0 := Aside0.mk hs0
      replace hcl := Aside0.mk hcl
      subst hS0
      clear hk hB hd hC1 hC2 hC3 hc1 hc2 hc3 hl g1 g2 g3
      go_enter Try.func6, Try.ntmps6
      go_wp2_with (first
        | (go_at_call 7; refine hG.out.mono ?_; rintro e w2 ⟨rfl, hb2⟩; have hB2 := Aside0.mk (below_step hb0.out hb2); clear hb2)
        | (go_at_call 8; refine (hL.out _).mono ?_; rintro e w8 ⟨rfl, hb8⟩; replace hb8 := Aside0.mk hb8))
      go_returns
      exact ⟨rfl, below_step hB2.out hb8.out⟩
    · have d1 : decide ((b.length : Int) > 9000) = false := decide_eq_false (by omega)
      have d2 : decide (9000 < (b.length : Int)) = false := decide_eq_false (by omega)
      have d3 : decide (9000 < b.length) = false := decide_eq_false hl
      have hd' : ∀ o ∈ ops, okO o := fun o ho => ⟨(hd o ho).1.1, (hd o ho).1.2, g3 o ho⟩
      have hPut := Aside0.mk (fun w (hb : Below W.heap.size W w) => script_Put.calls 6000 a0 a1 a2 a3 A c ch A2 c2 ops _ _ w (Kd.C_below hC1 hb) hc1 (Kd.C_below hC2 hb) hc2 (Put_some 6000 a0 a1 a2 a3 ch ops g1 (by omega) hd' (by omega)))
      have hTb := Aside0.mk (fun w (hb : Below W.heap.size W w) => take_calls 6000 A3 c3 b w (Kd.C_below hC3 hb) hc3 (refT b) (takeF_some 6000 b hB (by omega) (by omega)))
      have hbb := Aside0.mk hC3
      have hcb := Aside0.mk hc3
      have hl' := Aside0.mk (show b.length ≤ 9000 by omega)
      have hI := refT_inv b hB
      have hSc := Aside0.mk (fun (w : World) (hb : Below W.heap.size W w) (A6 : Option Addr) (k6 : Nat) (A7 : Option Addr) (k7 : Nat) (h6 : Kd.C Kd.bool w A6 ch.length ch) (h6' : ch.length ≤ k6) (h7 : Kd.C k39 w A7 ops.length ops) (h7' : ops.length ≤ k7) => gunnyref39_Scripts.calls 10000 a0 a1 a2 a3 A c ch A2 c2 ops a0 a1 a2 a3 A6 k6 ch A7 k7 ops true w (Kd.C_below hC1 hb) hc1 (Kd.C_below hC2 hb) hc2 h6 h6' h7 h7' (sc_scripts_some 10000 a0 a1 a2 a3 ch ops (by omega) (by omega) (by omega)))
      replace hs0 := Aside0.mk hs0
      replace hcl := Aside0.mk hcl
      replace hB := Aside0.mk hB
      replace hd := Aside0.mk hd
      replace hk := Aside0.mk hk
      have hg12 := Aside0.mk (And.intro g1 (And.intro g2 g3))
      clear hC1 hC2 hC3 hc1 hc2 hc3 hl g1 g2 g3 hd'
      by_cases hr : rightI a0 a1 a2 a3 ch ops = 0
      · have hT := refT_put a0 a1 a2 a3 ch ops hr hd.out
        have hplen : (putB a0 a1 a2 a3 ch ops).length ≤ 300000 := putB_le a0 a1 a2 a3 ch ops hg12.out.1 hg12.out.2.1 hg12.out.2.2
        have hpB := isBytes_putB a0 a1 a2 a3 ch ops (fun o ho => (hd.out o ho).2)
        have hcut := fun n hn he => refT_cut a0 a1 a2 a3 ch ops hr hd.out n hn he
        have hp7 : 0 < (putB a0 a1 a2 a3 ch ops).length := by rw [putB_length]; omega
        rw [if_pos hr, hr] at hPut
        rw [show hdr a0 a1 a2 a3 ch.length ++ chB ch ++ opsB ops = putB a0 a1 a2 a3 ch ops from rfl] at hPut
        generalize putB a0 a1 a2 a3 ch ops = p at *
        clear hr
        replace hT := Aside0.mk hT
        replace hplen := Aside0.mk hplen
        replace hpB := Aside0.mk hpB
        replace hcut := Aside0.mk hcut
        have hp0 : ((p.length : Int) == 0) = false := beq_eq_false_iff_ne.mpr (by omega)
        obtain ⟨n, hn⟩ : ∃ n : Nat, n = k % p.length := ⟨_, rfl⟩
        have hn1 : Int.tmod (k : Int) (p.length : Int) = (n : Int) := by rw [Int.tmod_eq_emod_of_nonneg (by omega), hn]; omega
        have hn2 : (k : Int) % (p.length : Int) = (n : Int) := by rw [hn]; omega
        have hnp : n < p.length := by rw [hn]; exact Nat.mod_lt _ hp7
        have hp7' : ¬ p.length = 0 := by omega
        clear hn
        have k0 : (0 : Int) ≤ (k : Int) := by omega
        have k1 : (k : Int) < 65536 := by have := hk.out; omega
        subst hS0
        go_enter Try.func6, Try.ntmps6
        go_upto_region 3 with (go_at_call 7; refine hG.out.mono ?_; rintro e w2 ⟨rfl, hb2⟩; have hB2 := Aside0.mk (below_step hb0.out hb2); have hs2 := Aside0.mk (blk_below hs0.out hb2); clear hb2 j0 j1 j2 j3 j4 j5; obtain ⟨j0, j1, j2, j3, j4, j5⟩ := hcl.out _ hB2.out hs2.out)
        go_upto_region 4 with (go_at_call 10; refine (hPut.out _ hB2.out).mono ?_; rintro e w3 ⟨v, rfl, hRp, hb3⟩; obtain ⟨Ap, kp, rfl⟩ := Kd.R_slice hRp; replace hRp := Aside0.mk hRp; have hB3 := Aside0.mk (below_step hB2.out hb3); have hs3 := Aside0.mk (blk_below hs2.out hb3); clear hb3 j0 j1 j2 j3 j4 j5)
        have hYp := Kd.R_reads' hRp.out
        have hTp := take_calls 6000 Ap kp p w3 hYp.2.2 hYp.2.1 (refT p) (takeF_some 6000 p hpB.out hplen.out (by omega))
        rw [hT.out] at hTp
        replace hTp := Aside0.mk hTp
        have hCp := Aside0.mk hYp.2.2
        have hcp := Aside0.mk hYp.2.1
        clear hYp
        go_upto_region 6 with (go_at_call 18; refine hTp.out.mono ?_; rintro e w4 ⟨v4, v5, rfl, hR4, hR5, hb4⟩; obtain ⟨A4, k4, rfl⟩ := Kd.R_slice hR4; obtain ⟨A5, k5, rfl⟩ := Kd.R_slice hR5; replace hb4 := Aside0.mk hb4; replace hR4 := Aside0.mk hR4; replace hR5 := Aside0.mk hR5)
        obtain ⟨O1, hO1⟩ : ∃ O1 : Obj, O1 = .cells #[.int .i64 a0, .int .i64 a1, .int .i64 a2, .int .i64 a3, .slice A4 ch.length k4, .slice A5 ops.length k5] 27 (0, 0) := ⟨_, rfl⟩
        have hB5 := Aside0.mk (below_alloc (below_step hB3.out hb4.out) O1)
        have ho1 := blk_new w4 O1
        have hs5 := Aside0.mk (blk_alloc (blk_below hs3.out hb4.out) O1)
        have hY4 := Kd.R_reads' hR4.out
        have hY5 := Kd.R_reads' hR5.out
        have hS1 := Aside0.mk (hSc.out _ hB5.out A4 k4 A5 k5 (Kd.C_alloc hY4.2.2 O1) hY4.2.1 (Kd.C_alloc hY5.2.2 O1) hY5.2.1)
        have hCp5 := Aside0.mk (Kd.C_below hCp.out (below_alloc hb4.out O1))
        obtain ⟨j0, j1, j2, j3, j4, j5⟩ := hcl.out _ hB5.out hs5.out
        subst hO1
        have o0 := blk_cell ho1 0
        have o1 := blk_cell ho1 1
        have o2 := blk_cell ho1 2
        have o3 := blk_cell ho1 3
        have o4 := blk_cell ho1 4
        have o5 := blk_cell ho1 5
        clear ho1 hY4 hY5
        go_upto_region 9 with (go_at_call 17; refine hS1.out.mono ?_; rintro e w6 ⟨rfl, hb6⟩; replace hb6 := Aside0.mk hb6)
        clear o0 o1 o2 o3 o4 o5 j0 j1 j2 j3 j4 j5 hp0 hp7' hn1 hn2
        have hcut2 := hcut.out n hnp
        have hlen2 : (p.take n).length = n := by rw [List.length_take]; omega
        have hT2 := take_calls 6000 Ap kp (p.take n) w6 (Kd.C_take (Kd.C_below hCp5.out hb6.out) (by omega)) (by rw [hlen2]; have := hcp.out; omega) (refT (p.take n)) (takeF_some 6000 (p.take n) (hpB.out.take n) (by rw [hlen2]; have := hplen.out; omega) (by omega))
        rw [hlen2] at hT2
        generalize refT (p.take n) = R2 at hT2 hcut2
        obtain ⟨⟨q0, q1, q2, q3⟩, ch2, ops2, at2, er2⟩ := R2
        replace hT2 := Aside0.mk hT2
        clear hlen2 hp7
        have nk0 : (0 : Int) ≤ (n : Int) := by omega
        have nk1 : (n : Int) ≤ (kp : Int) := by have := hcp.out; omega
        have nk2 : n ≤ kp := by omega
        go_upto_region 10 with (go_at_call 18; refine hT2.out.mono ?_; rintro e w7 ⟨v6, v7, rfl, hR6, hR7, hb7⟩; obtain ⟨A6, k6, rfl⟩ := Kd.R_slice hR6; obtain ⟨A7, k7, rfl⟩ := Kd.R_slice hR7; replace hb7 := Aside0.mk hb7; clear hR6 hR7)
        obtain ⟨O2, hO2⟩ : ∃ O2 : Obj, O2 = .cells #[.int .i64 q0, .int .i64 q1, .int .i64 q2, .int .i64 q3, .slice A6 ch2.length k6, .slice A7 ops2.length k7] 27 (0, 0) := ⟨_, rfl⟩
        have hB7 := Aside0.mk (below_alloc (below_step (below_step hB5.out hb6.out) hb7.out) O2)
        have ho2 := blk_new w7 O2
        have hs7 := Aside0.mk (blk_alloc (blk_below (blk_below hs5.out hb6.out) hb7.out) O2)
        obtain ⟨j0, j1, j2, j3, j4, j5⟩ := hcl.out _ hB7.out hs7.out
        subst hO2
        have o2 := blk_cell ho2 5
        clear ho2
        clear nk0 nk1 nk2 hnp k0 k1 j0 j1 j2 j3 j4
        by_cases her : er2 = 0
        · subst her
          have hcc : ops2.length < ops.length := hcut2 rfl
          have g5 : decide ((ops2.length : Int) ≥ (ops.length : Int)) = false := decide_eq_false (by omega)
          have g6 : decide ((ops.length : Int) ≤ (ops2.length : Int)) = false := decide_eq_false (by omega)
          have g7 : decide (ops.length ≤ ops2.length) = false := decide_eq_false (by omega)
          clear hcut2 hcc
          go_upto_region 12 with (fail)
          clear g5 g6 g7 o2 j5
          have hTt := Aside0.mk (hTb.out _ hB7.out)
          rcases hI with ⟨b0, b1, b2, b3, c', l', z1, z2, z3, z4⟩ | ⟨at_, er, z1, z2, z3, z4⟩
          · rw [z1] at hTt
            have hp2 : script_Put.f 6000 b0 b1 b2 b3 c' l' = some (b, 0) := by
              obtain ⟨y1, y2, y3, y4⟩ := rightI_zero.1 z2
              rw [Put_some 6000 b0 b1 b2 b3 c' l' (by omega) (by omega) (fun o ho => ⟨(z4 o ho).2.1, (z4 o ho).2.2, len_of_may (y4 o ho)⟩) (by omega), if_pos z2, z2]
              exact congrArg (fun x => some (x, (0 : Int))) z3
            replace hp2 := Aside0.mk hp2
            clear z1 z2 z3 z4
            go_upto_region 13 with (go_at_call 18; refine hTt.out.mono ?_; rintro e w1 ⟨v4, v5, rfl, hR4, hR5, hb1⟩; obtain ⟨A4, k4, rfl⟩ := Kd.R_slice hR4; obtain ⟨A5, k5, rfl⟩ := Kd.R_slice hR5; replace hb1 := Aside0.mk hb1; replace hR4 := Aside0.mk hR4; replace hR5 := Aside0.mk hR5)
            have hY4 := Kd.R_reads' hR4.out
            have hY5 := Kd.R_reads' hR5.out
            obtain ⟨O1, hO1⟩ : ∃ O1 : Obj, O1 = .cells #[.int .i64 b0, .int .i64 b1, .int .i64 b2, .int .i64 b3, .slice A4 c'.length k4, .slice A5 l'.length k5] 27 (0, 0) := ⟨_, rfl⟩
            have hBo := Aside0.mk (below_alloc (below_step hB7.out hb1.out) O1)
            have ho1 := blk_new w1 O1
            have hP2 := script_Put.calls 6000 b0 b1 b2 b3 A4 k4 c' A5 k5 l' b 0 _ (Kd.C_alloc hY4.2.2 O1) hY4.2.1 (Kd.C_alloc hY5.2.2 O1) hY5.2.1 hp2.out
            subst hO1
            replace hP2 := Aside0.mk hP2
            have o0 := blk_cell ho1 0
            have o1 := blk_cell ho1 1
            have o2 := blk_cell ho1 2
            have o3 := blk_cell ho1 3
            have o4 := blk_cell ho1 4
            have o5 := blk_cell ho1 5
            clear ho1 hY4 hY5
            go_upto_region 16 with (go_at_call 10; refine hP2.out.mono ?_; rintro e w2 ⟨v, rfl, hRp, hb2⟩; obtain ⟨Ap, kp, rfl⟩ := Kd.R_slice hRp; replace hb2 := Aside0.mk hb2; replace hRp := Aside0.mk hRp)
            have hYp := Kd.R_reads' hRp.out
            have hBe := Aside0.mk (gunnyref01_Bytes.calls Ap kp b A3 c3 b true w2 hYp.2.2 hYp.2.1 (Kd.C_below hbb.out (below_step hBo.out hb2.out)) hcb.out (bytes_same b))
            clear hYp
            go_wp2_with (first
              | (go_at_call 14; refine hBe.out.mono ?_; rintro e w3 ⟨rfl, hb3⟩; have hb3 := Aside0.mk (Drawn0.below hb3))
              | (go_at_call 8; refine (hL.out _).mono ?_; rintro e w8 ⟨rfl, hb8⟩; replace hb8 := Aside0.mk hb8))
            go_returns
            exact ⟨rfl, below_step (below_step (below_step hBo.out hb2.out) hb3.out) hb8.out⟩
          · rw [z1] at hTt
            have e1 : (er == 0) = false := beq_eq_false_iff_ne.mpr z2
            have e2 : (er != 0) = true := by rw [bne, e1]; rfl
            have e3 : decide (at_ ≥ 0) = true := decide_eq_true z3
            have e4 : decide (0 ≤ at_) = true := decide_eq_true z3
            have e5 : decide (at_ ≤ (b.length : Int)) = true := decide_eq_true z4
            clear z1 z2 z3 z4
            go_upto_region 13 with (go_at_call 18; refine hTt.out.mono ?_; rintro e w1 ⟨v4, v5, rfl, hR4, hR5, hb1⟩; obtain ⟨A4, k4, rfl⟩ := Kd.R_slice hR4; obtain ⟨A5, k5, rfl⟩ := Kd.R_slice hR5; replace hb1 := Aside0.mk hb1; replace hR4 := Aside0.mk hR4; replace hR5 := Aside0.mk hR5)
            have hY4 := Kd.R_reads' hR4.out
            have hY5 := Kd.R_reads' hR5.out
            obtain ⟨O1, hO1⟩ : ∃ O1 : Obj, O1 = .cells #[.int .i64 0, .int .i64 0, .int .i64 0, .int .i64 0, .slice A4 0 k4, .slice A5 0 k5] 27 (0, 0) := ⟨_, rfl⟩
            have hBo := Aside0.mk (below_alloc (below_step hB7.out hb1.out) O1)
            have ho1 := blk_new w1 O1
            have hS2 := gunnyref39_Scripts.calls 10000 0 0 0 0 A4 k4 [] A5 k5 [] 0 0 0 0 none 0 [] none 0 [] true _ (Kd.C_alloc hY4.2.2 O1) hY4.2.1 (Kd.C_alloc hY5.2.2 O1) hY5.2.1 (Kd.C_nil _ _) (Nat.le_refl _) (Kd.C_nil _ _) (Nat.le_refl _) (sc_scripts_some 10000 0 0 0 0 [] [] (by simp) (by simp) (by simp))
            subst hO1
            replace hS2 := Aside0.mk hS2
            have o0 := blk_cell ho1 0
            have o1 := blk_cell ho1 1
            have o2 := blk_cell ho1 2
            have o3 := blk_cell ho1 3
            have o4 := blk_cell ho1 4
            have o5 := blk_cell ho1 5
            clear ho1 hY4 hY5
            go_wp2_with (first
              | (go_at_call 17; refine hS2.out.mono ?_; rintro e w3 ⟨rfl, hb3⟩; replace hb3 := Aside0.mk hb3)
              | (go_at_call 8; refine (hL.out _).mono ?_; rintro e w8 ⟨rfl, hb8⟩; replace hb8 := Aside0.mk hb8))
            go_returns
            exact ⟨rfl, below_step (below_step hBo.out hb3.out) hb8.out⟩
        · have g5 : (er2 == 0) = false := beq_eq_false_iff_ne.mpr her
          clear hcut2 her
          go_upto_region 12 with (fail)
          clear g5 o2 j5
          have hTt := Aside0.mk (hTb.out _ hB7.out)
          rcases hI with ⟨b0, b1, b2, b3, c', l', z1, z2, z3, z4⟩ | ⟨at_, er, z1, z2, z3, z4⟩
          · rw [z1] at hTt
            have hp2 : script_Put.f 6000 b0 b1 b2 b3 c' l' = some (b, 0) := by
              obtain ⟨y1, y2, y3, y4⟩ := rightI_zero.1 z2
              rw [Put_some 6000 b0 b1 b2 b3 c' l' (by omega) (by omega) (fun o ho => ⟨(z4 o ho).2.1, (z4 o ho).2.2, len_of_may (y4 o ho)⟩) (by omega), if_pos z2, z2]
              exact congrArg (fun x => some (x, (0 : Int))) z3
            replace hp2 := Aside0.mk hp2
            clear z1 z2 z3 z4
            go_upto_region 13 with (go_at_call 18; refine hTt.out.mono ?_; rintro e w1 ⟨v4, v5, rfl, hR4, hR5, hb1⟩; obtain ⟨A4, k4, rfl⟩ := Kd.R_slice hR4; obtain ⟨A5, k5, rfl⟩ := Kd.R_slice hR5; replace hb1 := Aside0.mk hb1; replace hR4 := Aside0.mk hR4; replace hR5 := Aside0.mk hR5)
            have hY4 := Kd.R_reads' hR4.out
            have hY5 := Kd.R_reads' hR5.out
            obtain ⟨O1, hO1⟩ : ∃ O1 : Obj, O1 = .cells #[.int .i64 b0, .int .i64 b1, .int .i64 b2, .int .i64 b3, .slice A4 c'.length k4, .slice A5 l'.length k5] 27 (0, 0) := ⟨_, rfl⟩
            have hBo := Aside0.mk (below_alloc (below_step hB7.out hb1.out) O1)
            have ho1 := blk_new w1 O1
            have hP2 := script_Put.calls 6000 b0 b1 b2 b3 A4 k4 c' A5 k5 l' b 0 _ (Kd.C_alloc hY4.2.2 O1) hY4.2.1 (Kd.C_alloc hY5.2.2 O1) hY5.2.1 hp2.out
            subst hO1
            replace hP2 := Aside0.mk hP2
            have o0 := blk_cell ho1 0
            have o1 := blk_cell ho1 1
            have o2 := blk_cell ho1 2
            have o3 := blk_cell ho1 3
            have o4 := blk_cell ho1 4
            have o5 := blk_cell ho1 5
            clear ho1 hY4 hY5
            go_upto_region 16 with (go_at_call 10; refine hP2.out.mono ?_; rintro e w2 ⟨v, rfl, hRp, hb2⟩; obtain ⟨Ap, kp, rfl⟩ := Kd.R_slice hRp; replace hb2 := Aside0.mk hb2; replace hRp := Aside0.mk hRp)
            have hYp := Kd.R_reads' hRp.out
            have hBe := Aside0.mk (gunnyref01_Bytes.calls Ap kp b A3 c3 b true w2 hYp.2.2 hYp.2.1 (Kd.C_below hbb.out (below_step hBo.out hb2.out)) hcb.out (bytes_same b))
            clear hYp
            go_wp2_with (first
              | (go_at_call 14; refine hBe.out.mono ?_; rintro e w3 ⟨rfl, hb3⟩; have hb3 := Aside0.mk (Drawn0.below hb3))
              | (go_at_call 8; refine (hL.out _).mono ?_; rintro e w8 ⟨rfl, hb8⟩; replace hb8 := Aside0.mk hb8))
            go_returns
            exact ⟨rfl, below_step (below_step (below_step hBo.out hb2.out) hb3.out) hb8.out⟩
          · rw [z1] at hTt
            have e1 : (er == 0) = false := beq_eq_false_iff_ne.mpr z2
            have e2 : (er != 0) = true := by rw [bne, e1]; rfl
            have e3 : decide (at_ ≥ 0) = true := decide_eq_true z3
            have e4 : decide (0 ≤ at_) = true := decide_eq_true z3
            have e5 : decide (at_ ≤ (b.length : Int)) = true := decide_eq_true z4
            clear z1 z2 z3 z4
            go_upto_region 13 with (go_at_call 18; refine hTt.out.mono ?_; rintro e w1 ⟨v4, v5, rfl, hR4, hR5, hb1⟩; obtain ⟨A4, k4, rfl⟩ := Kd.R_slice hR4; obtain ⟨A5, k5, rfl⟩ := Kd.R_slice hR5; replace hb1 := Aside0.mk hb1; replace hR4 := Aside0.mk hR4; replace hR5 := Aside0.mk hR5)
            have hY4 := Kd.R_reads' hR4.out
            have hY5 := Kd.R_reads' hR5.out
            obtain ⟨O1, hO1⟩ : ∃ O1 : Obj, O1 = .cells #[.int .i64 0, .int .i64 0, .int .i64 0, .int .i64 0, .slice A4 0 k4, .slice A5 0 k5] 27 (0, 0) := ⟨_, rfl⟩
            have hBo := Aside0.mk (below_alloc (below_step hB7.out hb1.out) O1)
            have ho1 := blk_new w1 O1
            have hS2 := gunnyref39_Scripts.calls 10000 0 0 0 0 A4 k4 [] A5 k5 [] 0 0 0 0 none 0 [] none 0 [] true _ (Kd.C_alloc hY4.2.2 O1) hY4.2.1 (Kd.C_alloc hY5.2.2 O1) hY5.2.1 (Kd.C_nil _ _) (Nat.le_refl _) (Kd.C_nil _ _) (Nat.le_refl _) (sc_scripts_some 10000 0 0 0 0 [] [] (by simp) (by simp) (by simp))
            subst hO1
            replace hS2 := Aside0.mk hS2
            have o0 := blk_cell ho1 0
            have o1 := blk_cell ho1 1
            have o2 := blk_cell ho1 2
            have o3 := blk_cell ho1 3
            have o4 := blk_cell ho1 4
            have o5 := blk_cell ho1 5
            clear ho1 hY4 hY5
            go_wp2_with (first
              | (go_at_call 17; refine hS2.out.mono ?_; rintro e w3 ⟨rfl, hb3⟩; replace hb3 := Aside0.mk hb3)
              | (go_at_call 8; refine (hL.out _).mono ?_; rintro e w8 ⟨rfl, hb8⟩; replace hb8 := Aside0.mk hb8))
            go_returns
            exact ⟨rfl, below_step (below_step hBo.out hb3.out) hb8.out⟩
      · have hr' : (rightI a0 a1 a2 a3 ch ops == 0) = false := beq_eq_false_iff_ne.mpr hr
        rw [if_neg hr] at hPut
        generalize rightI a0 a1 a2 a3 ch ops = rr at *
        clear hr
        subst hS0
        go_enter Try.func6, Try.ntmps6
        go_upto_region 3 with (go_at_call 7; refine hG.out.mono ?_; rintro e w2 ⟨rfl, hb2⟩; have hB2 := Aside0.mk (below_step hb0.out hb2); have hs2 := Aside0.mk (blk_below hs0.out hb2); clear hb2 j0 j1 j2 j3 j4 j5; obtain ⟨j0, j1, j2, j3, j4, j5⟩ := hcl.out _ hB2.out hs2.out)
        go_upto_region 12 with (go_at_call 10; refine (hPut.out _ hB2.out).mono ?_; rintro e w3 ⟨v, rfl, hRp, hb3⟩; obtain ⟨Ap, kp, rfl⟩ := Kd.R_slice hRp; clear hRp; have hB3 := Aside0.mk (below_step hB2.out hb3); clear hb3 j0 j1 j2 j3 j4 j5)
        clear hr'
        have hTt := Aside0.mk (hTb.out _ hB3.out)
        rcases hI with ⟨b0, b1, b2, b3, c', l', z1, z2, z3, z4⟩ | ⟨at_, er, z1, z2, z3, z4⟩
        · rw [z1] at hTt
          have hp2 : script_Put.f 6000 b0 b1 b2 b3 c' l' = some (b, 0) := by
            obtain ⟨y1, y2, y3, y4⟩ := rightI_zero.1 z2
            rw [Put_some 6000 b0 b1 b2 b3 c' l' (by omega) (by omega) (fun o ho => ⟨(z4 o ho).2.1, (z4 o ho).2.2, len_of_may (y4 o ho)⟩) (by omega), if_pos z2, z2]
            exact congrArg (fun x => some (x, (0 : Int))) z3
          replace hp2 := Aside0.mk hp2
          clear z1 z2 z3 z4
          go_upto_region 13 with (go_at_call 18; refine hTt.out.mono ?_; rintro e w1 ⟨v4, v5, rfl, hR4, hR5, hb1⟩; obtain ⟨A4, k4, rfl⟩ := Kd.R_slice hR4; obtain ⟨A5, k5, rfl⟩ := Kd.R_slice hR5; replace hb1 := Aside0.mk hb1; replace hR4 := Aside0.mk hR4; replace hR5 := Aside0.mk hR5)
          have hY4 := Kd.R_reads' hR4.out
          have hY5 := Kd.R_reads' hR5.out
          obtain ⟨O1, hO1⟩ : ∃ O1 : Obj, O1 = .cells #[.int .i64 b0, .int .i64 b1, .int .i64 b2, .int .i64 b3, .slice A4 c'.length k4, .slice A5 l'.length k5] 27 (0, 0) := ⟨_, rfl⟩
          have hBo := Aside0.mk (below_alloc (below_step hB3.out hb1.out) O1)
          have ho1 := blk_new w1 O1
          have hP2 := script_Put.calls 6000 b0 b1 b2 b3 A4 k4 c' A5 k5 l' b 0 _ (Kd.C_alloc hY4.2.2 O1) hY4.2.1 (Kd.C_alloc hY5.2.2 O1) hY5.2.1 hp2.out
          subst hO1
          replace hP2 := Aside0.mk hP2
          have o0 := blk_cell ho1 0
          have o1 := blk_cell ho1 1
          have o2 := blk_cell ho1 2
          have o3 := blk_cell ho1 3
          have o4 := blk_cell ho1 4
          have o5 := blk_cell ho1 5
          clear ho1 hY4 hY5
          go_upto_region 16 with (go_at_call 10; refine hP2.out.mono ?_; rintro e w2 ⟨v, rfl, hRp, hb2⟩; obtain ⟨Ap, kp, rfl⟩ := Kd.R_slice hRp; replace hb2 := Aside0.mk hb2; replace hRp := Aside0.mk hRp)
          have hYp := Kd.R_reads' hRp.out
          have hBe := Aside0.mk (gunnyref01_Bytes.calls Ap kp b A3 c3 b true w2 hYp.2.2 hYp.2.1 (Kd.C_below hbb.out (below_step hBo.out hb2.out)) hcb.out (bytes_same b))
          clear hYp
          go_wp2_with (first
            | (go_at_call 14; refine hBe.out.mono ?_; rintro e w3 ⟨rfl, hb3⟩; have hb3 := Aside0.mk (Drawn0.below hb3))
            | (go_at_call 8; refine (hL.out _).mono ?_; rintro e w8 ⟨rfl, hb8⟩; replace hb8 := Aside0.mk hb8))
          go_returns
          exact ⟨rfl, below_step (below_step (below_step hBo.out hb2.out) hb3.out) hb8.out⟩
        · rw [z1] at hTt
          have e1 : (er == 0) = false := beq_eq_false_iff_ne.mpr z2
          have e2 : (er != 0) = true := by rw [bne, e1]; rfl
          have e3 : decide (at_ ≥ 0) = true := decide_eq_true z3
          have e4 : decide (0 ≤ at_) = true := decide_eq_true z3
          have e5 : decide (at_ ≤ (b.length : Int)) = true := decide_eq_true z4
          clear z1 z2 z3 z4
          go_upto_region 13 with (go_at_call 18; refine hTt.out.mono ?_; rintro e w1 ⟨v4, v5, rfl, hR4, hR5, hb1⟩; obtain ⟨A4, k4, rfl⟩ := Kd.R_slice hR4; obtain ⟨A5, k5, rfl⟩ := Kd.R_slice hR5; replace hb1 := Aside0.mk hb1; replace hR4 := Aside0.mk hR4; replace hR5 := Aside0.mk hR5)
          have hY4 := Kd.R_reads' hR4.out
          have hY5 := Kd.R_reads' hR5.out
          obtain ⟨O1, hO1⟩ : ∃ O1 : Obj, O1 = .cells #[.int .i64 0, .int .i64 0, .int .i64 0, .int .i64 0, .slice A4 0 k4, .slice A5 0 k5] 27 (0, 0) := ⟨_, rfl⟩
          have hBo := Aside0.mk (below_alloc (below_step hB3.out hb1.out) O1)
          have ho1 := blk_new w1 O1
          have hS2 := gunnyref39_Scripts.calls 10000 0 0 0 0 A4 k4 [] A5 k5 [] 0 0 0 0 none 0 [] none 0 [] true _ (Kd.C_alloc hY4.2.2 O1) hY4.2.1 (Kd.C_alloc hY5.2.2 O1) hY5.2.1 (Kd.C_nil _ _) (Nat.le_refl _) (Kd.C_nil _ _) (Nat.le_refl _) (sc_scripts_some 10000 0 0 0 0 [] [] (by simp) (by simp) (by simp))
          subst hO1
          replace hS2 := Aside0.mk hS2
          have o0 := blk_cell ho1 0
          have o1 := blk_cell ho1 1
          have o2 := blk_cell ho1 2
          have o3 := blk_cell ho1 3
          have o4 := blk_cell ho1 4
          have o5 := blk_cell ho1 5
          clear ho1 hY4 hY5
          go_wp2_with (first
            | (go_at_call 17; refine hS2.out.mono ?_; rintro e w3 ⟨rfl, hb3⟩; replace hb3 := Aside0.mk hb3)
            | (go_at_call 8; refine (hL.out _).mono ?_; rintro e w8 ⟨rfl, hb8⟩; replace hb8 := Aside0.mk hb8))
          go_returns
          exact ⟨rfl, below_step (below_step hBo.out hb3.out) hb8.out⟩
abbrev kConf : Kd (Int × Int × Int × Int) := Kd.pair (Kd.int .i64) (Kd.pair (Kd.int .i64) (Kd.pair (Kd.int .i64) (Kd.int .i64)))
abbrev kScript : Kd ((Int × Int × Int × Int) × List Bool × List S39) := Kd.pair kConf (Kd.pair (Kd.slice 4 Kd.bool) (Kd.slice 39 k39))
theorem opens_conf : Opens.Opens Try.prog kConf 23 (fun c => (Lit.int .i64 c.1).wf = true ∧ (Lit.int .i64 c.2.1).wf = true ∧ (Lit.int .i64 c.2.2.1).wf = true ∧ (Lit.int .i64 c.2.2.2).wf = true) := by
  have h := Opens.opens_struct Try.underlying23 (by kernel_rfl) (Opens.opensF_cons rfl (Opens.opens_int Try.underlying3 (by kernel_rfl)) (Opens.opensF_cons rfl (Opens.opens_int Try.underlying3 (by kernel_rfl)) (Opens.opensF_cons rfl (Opens.opens_int Try.underlying3 (by kernel_rfl)) (Opens.opensF_one rfl (Opens.opens_int Try.underlying3 (by kernel_rfl))))))
  exact h
def ScriptWf (y : (Int × Int × Int × Int) × List Bool × List S39) : Prop :=
  ((Lit.int .i64 y.1.1).wf = true ∧ (Lit.int .i64 y.1.2.1).wf = true ∧ (Lit.int .i64 y.1.2.2.1).wf = true ∧ (Lit.int .i64 y.1.2.2.2).wf = true) ∧ (y.2.1.length ≤ maxLen ∧ ∀ x ∈ y.2.1, True) ∧ (y.2.2.length ≤ maxLen ∧ ∀ x ∈ y.2.2, OpWf x)
theorem opens_script : Opens.Opens Try.prog kScript 27 ScriptWf := by
  have h := Opens.opens_struct Try.underlying27 (by kernel_rfl) (Opens.opensF_cons rfl opens_conf (Opens.opensF_cons rfl (Opens.opens_slice Try.underlying24 (by kernel_rfl) (Opens.opens_bool Try.underlying4 (by kernel_rfl))) (Opens.opensF_one rfl (Opens.opens_slice Try.underlying25 (by kernel_rfl) opens_op))))
  exact h
theorem script_open {w : World} {a : Array Value} {y : (Int × Int × Int × Int) × List Bool × List S39} (h : kScript.K w y a.toList) :
    ∃ A c A2 c2, a = #[.int .i64 y.1.1, .int .i64 y.1.2.1, .int .i64 y.1.2.2.1, .int .i64 y.1.2.2.2, .slice A y.2.1.length c, .slice A2 y.2.2.length c2] ∧ y.2.1.length ≤ c ∧ Kd.C Kd.bool w A y.2.1.length y.2.1 ∧ y.2.2.length ≤ c2 ∧ Kd.C k39 w A2 y.2.2.length y.2.2 := by
  obtain ⟨_, _, e, ⟨_, _, e1, e2, _, _, e3, e4, _, _, e5, e6, e7⟩, _, _, e8, ⟨A, c, e9, hc, hC⟩, A2, c2, e10, hc2, hC2⟩ := h
  refine ⟨A, c, A2, c2, ?_, hc, hC, hc2, hC2⟩
  apply Array.ext'
  rw [e, e1, e2, e3, e4, e5, e6, e7, e8, e9, e10]
  rfl
theorem back_walk (W : World) (a : Array Value) (y : (Int × Int × Int × Int) × List Bool × List S39) (hK : kScript.K W y a.toList) (hR : ScriptWf y)
    (A3 : Option Addr) (c3 : Nat) (b : List Int) (hC3 : Kd.C (Kd.int .u8) W A3 b.length b) (hc3 : b.length ≤ c3) (hm : b.length ≤ maxLen) (hx : ∀ x ∈ b, (Lit.int .u8 x).wf = true) (k : Int) (wk : (Lit.int .u16 k).wf = true) :
    Calls Try.prog 6 #[.agg a, .slice A3 b.length c3, .int .u16 k] W fun e w' => e = .returned (.bool true) ∧ Below W.heap.size W w' := by
  obtain ⟨A, c, A2, c2, rfl, hc, hC, hc2, hC2⟩ := script_open hK
  have hk := bounds_u16 wk
  obtain ⟨n, rfl⟩ : ∃ n : Nat, k = (n : Int) := ⟨k.toNat, by omega⟩
  exact back_law W y.1.1 y.1.2.1 y.1.2.2.1 y.1.2.2.2 A c y.2.1 A2 c2 y.2.2 A3 c3 b n hC hc hC2 hc2 hC3 hc3 (fun o ho => by
    have h := hR.2.2.2 o ho
    have h3 := bounds_u64 h.2.2.2.1
    exact ⟨by omega, isBytes.of_wf h.2.2.2.2.2⟩) (isBytes.of_wf hx) (by omega)
end Go.Proofs.Ytldoaddeaiappaa.Hand
end
