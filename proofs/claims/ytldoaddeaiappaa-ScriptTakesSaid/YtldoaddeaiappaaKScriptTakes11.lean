/- What the law ScriptTakes uses, part 11: contracts of the functions that it reaches, walked, and plain laws (put together by a program out of texts made for this claim). -/
import Derived.Test.YtldoaddeaiappaaKScriptTakes4
import Derived.Test.YtldoaddeaiappaaKScriptTakes6
import Derived.Test.YtldoaddeaiappaaKScriptTakes7
import Derived.ArgAppend
import Derived.Below
import Derived.BigQuiet
import Derived.Deep.AppendLies
import Derived.Deep.CutBlock
import Derived.Deep.DeepCutAuto
import Derived.Deep.Draws
import Derived.Deep.LoopGhost
import Derived.Deep.OwnRows
import Derived.Deep.QuietTactic
import Derived.Deep.RegionHeld3
import Derived.Handy
import Derived.KernelRfl
import Derived.Laws.BitsAllLaws
import Derived.Laws.BitsLemmas
import Derived.Laws.BytesArg
import Derived.Laws.IdiomCopy
import Derived.Laws.MakeOwn
import Derived.Laws.OwnMore
import Derived.Laws.Rows
import Derived.Laws.Slices
import Derived.Laws.StructEq
import Derived.Lib.AppendStr
import Derived.Lib.ConvBytes
import Derived.Maps.AppendAt
import Derived.OpenShut
import Derived.OrdersHeld
import Derived.OwnWalk
import Derived.RowKit
import Derived.RowKit3
import Derived.Tactics
import Derived.Test.YtldoaddeaiappaaProg
import Derived.WalkKit
import Derived.WideLaws
section
namespace Go.Proofs.Ytldoaddeaiappaa.Hand
set_option linter.unusedVariables false
set_option linter.unusedSimpArgs false
open Go.RowKit Go.Proofs.Ytldoaddeaiappaa.R Go.Proofs.Ytldoaddeaiappaa.Bits Go.Proofs.YtldoaddeaiappaaW.PrintWords Go.Proofs.YtldoaddeaiappaaW.PrintMore
/-- The number of some bytes. -/
def val : List Int → Nat
  | [] => 0
  | b :: r => b.toNat + 256 * val r
def isBytes (l : List Int) : Prop := ∀ x ∈ l, 0 ≤ x ∧ x < 256
theorem isBytes.of_wf {l : List Int} (h : ∀ x ∈ l, (Lit.int .u8 x).wf = true) : isBytes l := by
  intro x hx
  have := h x hx
  have := bounds_u8 this
  omega
theorem isBytes.drop {l : List Int} (h : isBytes l) (n : Nat) : isBytes (l.drop n) := fun x hx => h x (List.mem_of_mem_drop hx)
theorem isBytes.take {l : List Int} (h : isBytes l) (n : Nat) : isBytes (l.take n) := fun x hx => h x (List.mem_of_mem_take hx)
theorem val_append (l r : List Int) : val (l ++ r) = val l + 256 ^ l.length * val r := by
  induction l with
  | nil => simp [val]
  | cons b l ih =>
    simp only [List.cons_append, val, List.length_cons, Nat.pow_succ]
    rw [ih, Nat.mul_add, Nat.mul_comm (256 ^ l.length) 256, Nat.mul_assoc]
    omega
theorem val_lt {l : List Int} (h : isBytes l) : val l < 256 ^ l.length := by
  induction l with
  | nil => simp [val]
  | cons b l ih =>
    have hb := h b (List.mem_cons_self ..)
    have := ih (fun x hx => h x (List.mem_cons_of_mem _ hx))
    simp only [val, List.length_cons, Nat.pow_succ]
    omega
theorem rd_at (l : List Int) (i : Nat) (h : i < l.length) : rd l (i : Int) = l[i] := by
  unfold rd
  simp [h]
theorem pow256 (n : Nat) : (256 : Nat) ^ n = 2 ^ (8 * n) := by rw [show (256 : Nat) = 2 ^ 8 by decide, ← Nat.pow_mul]
theorem w64 (x : Nat) (h : x < 9223372036854775808) : wrap64 (x : Int) = (x : Int) := by unfold wrap64; omega
theorem w64a (x y : Nat) (h : x + y < 9223372036854775808) : wrap64 ((x : Int) + (y : Int)) = ((x + y : Nat) : Int) := by unfold wrap64; omega
theorem w8 (i : Nat) (h : i < 1000000) : wrap64 (8 * (i : Int)) = ((8 * i : Nat) : Int) := by unfold wrap64; omega
theorem u64_nat (n : Nat) (h : n < 18446744073709551616) : IntKind.u64.wrap (n : Int) = (n : Int) := by rw [u64w]; omega
end Go.Proofs.Ytldoaddeaiappaa.Hand
end
section
namespace Go.Proofs.Ytldoaddeaiappaa.Hand
set_option linter.unusedVariables false
set_option linter.unusedSimpArgs false
open Go.RowKit Go.Proofs.Ytldoaddeaiappaa.R Go.Proofs.Ytldoaddeaiappaa.Bits Go.Proofs.YtldoaddeaiappaaW.PrintWords Go.Proofs.YtldoaddeaiappaaW.PrintLast Go.Proofs.YtldoaddeaiappaaW.PrintMore
def bitN (c : List Bool) (i : Nat) : Nat := if c.getD i false then 1 else 0
/-- The last m choices of byte j. -/
def hi (c : List Bool) (j : Nat) : Nat → Nat
  | 0 => 0
  | m + 1 => 2 * hi c j m + bitN c (8 * j + (7 - m))
end Go.Proofs.Ytldoaddeaiappaa.Hand
end
section
namespace Go.Proofs.Ytldoaddeaiappaa.Hand
set_option linter.unusedVariables false
set_option linter.unusedSimpArgs false
open Go.RowKit Go.Proofs.Ytldoaddeaiappaa.R Go.Proofs.Ytldoaddeaiappaa.Bits Go.Proofs.YtldoaddeaiappaaW.PrintWords Go.Proofs.YtldoaddeaiappaaW.PrintLast Go.Proofs.YtldoaddeaiappaaW.PrintMore
/-- Which fields a kind has. -/
def hasK (a : Int) : Bool × Bool × Bool × Bool :=
  if a = 0 then (true, true, false, false) else if a = 2 then (true, true, false, false) else if a = 1 then (false, true, false, false) else if a = 3 then (false, true, true, false) else if a = 5 then (false, true, true, false)
  else if a = 6 then (false, false, true, false) else if a = 8 then (false, false, true, false) else if a = 10 then (false, false, true, false) else if a = 4 then (false, true, false, true) else (false, false, false, false)
theorem fields_some (k : Nat) (a : Int) (hk : 4 ≤ k) : script_fields.f k a = some (hasK a) := by
  obtain ⟨k, rfl⟩ : ∃ m, k = m + 4 := ⟨k - 4, by omega⟩
  by_cases h0 : a = 0
  · subst h0; simp [script_fields.f, script_fields.j0, hasK]
  by_cases h2 : a = 2
  · subst h2; simp [script_fields.f, script_fields.j0, hasK]
  by_cases h1 : a = 1
  · subst h1; simp [script_fields.f, script_fields.j0, hasK]
  by_cases h3 : a = 3
  · subst h3; simp [script_fields.f, script_fields.j0, script_fields.j1, hasK]
  by_cases h5 : a = 5
  · subst h5; simp [script_fields.f, script_fields.j0, script_fields.j1, hasK]
  by_cases h6 : a = 6
  · subst h6; simp [script_fields.f, script_fields.j0, script_fields.j1, script_fields.j2, hasK]
  by_cases h8 : a = 8
  · subst h8; simp [script_fields.f, script_fields.j0, script_fields.j1, script_fields.j2, hasK]
  by_cases h10 : a = 10
  · subst h10; simp [script_fields.f, script_fields.j0, script_fields.j1, script_fields.j2, hasK]
  by_cases h4 : a = 4
  · subst h4; simp [script_fields.f, script_fields.j0, script_fields.j1, script_fields.j2, hasK]
  simp [script_fields.f, script_fields.j0, script_fields.j1, script_fields.j2, hasK, h0, h1, h2, h3, h4, h5, h6, h8, h10]
theorem Has_some (k : Nat) (a : Int) (hk : 4 ≤ k) : gunnyref39_Has.f k a = some (hasK a) := by
  obtain ⟨k, rfl⟩ : ∃ m, k = m + 4 := ⟨k - 4, by omega⟩
  by_cases h0 : a = 0
  · subst h0; simp [gunnyref39_Has.f, gunnyref39_Has.j0, hasK]
  by_cases h2 : a = 2
  · subst h2; simp [gunnyref39_Has.f, gunnyref39_Has.j0, hasK]
  by_cases h1 : a = 1
  · subst h1; simp [gunnyref39_Has.f, gunnyref39_Has.j0, hasK]
  by_cases h3 : a = 3
  · subst h3; simp [gunnyref39_Has.f, gunnyref39_Has.j0, gunnyref39_Has.j1, hasK]
  by_cases h5 : a = 5
  · subst h5; simp [gunnyref39_Has.f, gunnyref39_Has.j0, gunnyref39_Has.j1, hasK]
  by_cases h6 : a = 6
  · subst h6; simp [gunnyref39_Has.f, gunnyref39_Has.j0, gunnyref39_Has.j1, hasK]
  by_cases h8 : a = 8
  · subst h8; simp [gunnyref39_Has.f, gunnyref39_Has.j0, gunnyref39_Has.j1, hasK]
  by_cases h10 : a = 10
  · subst h10; simp [gunnyref39_Has.f, gunnyref39_Has.j0, gunnyref39_Has.j1, hasK]
  by_cases h4 : a = 4
  · subst h4; simp [gunnyref39_Has.f, gunnyref39_Has.j0, gunnyref39_Has.j1, hasK]
  simp [gunnyref39_Has.f, gunnyref39_Has.j0, gunnyref39_Has.j1, hasK, h0, h1, h2, h3, h4, h5, h6, h8, h10]
theorem rconf_some (a0 a1 a2 a3 : Int) : gunnyref39_Conf.f a0 a1 a2 a3 = some (decide (8 ≤ a0 ∧ a0 ≤ 96 ∧ 0 ≤ a1 ∧ a1 ≤ 128 ∧ 4 ≤ a2 ∧ a2 ≤ 96 ∧ 1 ≤ a3 ∧ a3 ≤ 100)) := by
  unfold gunnyref39_Conf.f
  by_cases h1 : a0 ≥ 8
  · rw [if_pos h1]
    by_cases h2 : a0 ≤ 96
    · rw [if_pos h2]
      by_cases h3 : a1 ≥ 0
      · rw [if_pos h3]
        by_cases h4 : a1 ≤ 128
        · rw [if_pos h4]
          by_cases h5 : a2 ≥ 4
          · rw [if_pos h5]
            by_cases h6 : a2 ≤ 96
            · rw [if_pos h6]
              by_cases h7 : a3 ≥ 1
              · rw [if_pos h7]; congr 1; rw [decide_eq_decide]; omega
              · rw [if_neg h7, decide_eq_false (by omega)]
            · rw [if_neg h6, decide_eq_false (by omega)]
          · rw [if_neg h5, decide_eq_false (by omega)]
        · rw [if_neg h4, decide_eq_false (by omega)]
      · rw [if_neg h3, decide_eq_false (by omega)]
    · rw [if_neg h2, decide_eq_false (by omega)]
  · rw [if_neg h1, decide_eq_false (by omega)]
end Go.Proofs.Ytldoaddeaiappaa.Hand
end
