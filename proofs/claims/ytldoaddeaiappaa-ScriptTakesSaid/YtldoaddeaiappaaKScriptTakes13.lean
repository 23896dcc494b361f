/- What the law ScriptTakes uses, part 13: contracts of the functions that it reaches, walked, and plain laws (put together by a program out of texts made for this claim). -/
import Derived.Test.YtldoaddeaiappaaKScriptTakes6
import Derived.Test.YtldoaddeaiappaaKScriptTakes9
import Derived.Test.YtldoaddeaiappaaKScriptTakes11
import Derived.ArgAppend
import Derived.Below
import Derived.BigQuiet
import Derived.Deep.AppendLies
import Derived.Deep.CutBlock
import Derived.Deep.DeepCutAuto
import Derived.Deep.Draws
import Derived.Deep.LoopGhost
import Derived.Deep.OwnRows
import Derived.Deep.QuietTactic
import Derived.Deep.RegionHeld3
import Derived.Handy
import Derived.KernelRfl
import Derived.Laws.BitsAllLaws
import Derived.Laws.BitsLemmas
import Derived.Laws.BytesArg
import Derived.Laws.IdiomCopy
import Derived.Laws.MakeOwn
import Derived.Laws.OwnMore
import Derived.Laws.Rows
import Derived.Laws.Slices
import Derived.Laws.StructEq
import Derived.Lib.AppendStr
import Derived.Lib.ConvBytes
import Derived.Lib.SliceRun
import Derived.Maps.AppendAt
import Derived.OpenShut
import Derived.OrdersHeld
import Derived.OwnWalk
import Derived.RowKit
import Derived.RowKit3
import Derived.Tactics
import Derived.Test.YtldoaddeaiappaaProg
import Derived.WalkKit
import Derived.WideLaws
section
namespace Go.Proofs.Ytldoaddeaiappaa.Hand
set_option linter.unusedVariables false
set_option linter.unusedSimpArgs false
open Go.RowKit Go.Proofs.Ytldoaddeaiappaa.R Go.Proofs.Ytldoaddeaiappaa.Bits Go.Proofs.YtldoaddeaiappaaW.PrintWords Go.Proofs.YtldoaddeaiappaaW.PrintMore
theorem rget_l0 (l : List Int) (hl : isBytes l) (hlen : l.length < 100000) (at_ n : Nat) (hn : n ≤ 8) (h : at_ + n ≤ l.length) (d : Nat) : ∀ (k : Nat) (acc : Nat), d ≤ n → acc < 256 ^ (n - d) → d < k →
    gunnyref01_Get.l0 k l (at_ : Int) (acc : Int) ((d : Int) - 1) = some ((val ((l.drop at_).take d) + 256 ^ d * acc : Nat) : Int) := by
  induction d with
  | zero =>
    intro k acc hd ha hk
    obtain ⟨k, rfl⟩ : ∃ m, k = m + 1 := ⟨k - 1, by omega⟩
    simp only [gunnyref01_Get.l0]
    rw [if_neg (by omega)]
    simp [val]
  | succ d ih =>
    intro k acc hd ha hk
    obtain ⟨k, rfl⟩ : ∃ m, k = m + 1 := ⟨k - 1, by omega⟩
    have hb := hl l[at_ + d] (List.getElem_mem (by omega))
    have e0 : ((d + 1 : Nat) : Int) - 1 = (d : Int) := by omega
    have e1 := w64a at_ d (by omega)
    have e2 : wrap64 ((d : Int) - 1) = (d : Int) - 1 := by unfold wrap64; omega
    have e3 := rd_at l (at_ + d) (by omega)
    have hp : (256 : Nat) ^ (n - d) ≤ 256 ^ 8 := Nat.pow_le_pow_right (by decide) (by omega)
    have hq : (256 : Nat) ^ (n - d) = 256 * 256 ^ (n - (d + 1)) := by rw [show n - d = n - (d + 1) + 1 by omega, Nat.pow_succ, Nat.mul_comm]
    have h8 : (256 : Nat) ^ 8 = 18446744073709551616 := by decide +kernel
    obtain ⟨b, hb'⟩ : ∃ b : Nat, l[at_ + d] = (b : Int) ∧ b < 256 := ⟨l[at_ + d].toNat, by omega, by omega⟩
    have e4 : IntKind.u64.wrap ((IntKind.u64.wrap (256 * (acc : Int))) + (IntKind.u64.wrap (b : Int))) = ((256 * acc + b : Nat) : Int) := by
      rw [u64w, u64w, u64w]
      omega
    simp only [gunnyref01_Get.l0]
    rw [e0, if_pos (by omega), e1, if_pos (by omega), if_pos (by omega), e2, e3, hb'.1, e4, ih k (256 * acc + b) (by omega) (by omega) (by omega)]
    have hd' : d < (l.drop at_).length := by simp; omega
    rw [List.take_succ_eq_append_getElem hd', val_append, List.length_take, Nat.min_eq_left (by omega)]
    have e5 : (l.drop at_)[d] = (b : Int) := by rw [List.getElem_drop]; exact hb'.1
    rw [e5]
    simp only [val, Int.toNat_natCast, Nat.mul_zero, Nat.add_zero]
    rw [Nat.pow_succ, Nat.mul_add, Nat.mul_assoc]
    refine congrArg some (congrArg Nat.cast ?_)
    omega
theorem rget (k : Nat) (l : List Int) (hl : isBytes l) (hlen : l.length < 100000) (at_ n : Nat) (h1 : 1 ≤ n) (hn : n ≤ 8) (h : at_ + n ≤ l.length) (hk : 8 < k) :
    gunnyref01_Get.f k l (at_ : Int) (n : Int) = some ((val ((l.drop at_).take n) : Nat) : Int) := by
  have e : wrap64 ((n : Int) - 1) = (n : Int) - 1 := by unfold wrap64; omega
  have := rget_l0 l hl hlen at_ n hn h n k 0 (by omega) (by simp) (by omega)
  unfold gunnyref01_Get.f
  rw [e]
  simpa using this
theorem or_add (a b i : Nat) (ha : a < 256 ^ i) (hb : b < 256) (hi : i < 8) : Go.bits .or .u64 (a : Int) (shl .u64 (b : Int) ((8 * i : Nat) : Int)) = ((a + 256 ^ i * b : Nat) : Int) := by
  have hp : (256 : Nat) ^ (i + 1) ≤ 256 ^ 8 := Nat.pow_le_pow_right (by decide) (by omega)
  have h8 : (256 : Nat) ^ 8 = 18446744073709551616 := by decide +kernel
  have hq : (256 : Nat) ^ (i + 1) = 256 * 256 ^ i := by rw [Nat.pow_succ, Nat.mul_comm]
  have hbp : b * 256 ^ i ≤ 255 * 256 ^ i := Nat.mul_le_mul_right _ (by omega)
  rw [shl_nat b (8 * i) (by omega), ← pow256, Nat.mod_eq_of_lt (by omega), u64_or_nat a _ (by omega) (by omega)]
  refine congrArg Nat.cast ?_
  rw [Nat.or_comm, Nat.mul_comm b, pow256]
  rw [pow256] at ha
  rw [← Nat.two_pow_add_eq_or_of_lt ha]
  omega
theorem nget_l0 (l : List Int) (hl : isBytes l) (hlen : l.length < 100000) (at_ n : Nat) (hn : n ≤ 8) (h : at_ + n ≤ l.length) (d : Nat) : ∀ (k i : Nat), i ≤ n → n - i = d → d < k →
    num_Get.l0 k l (at_ : Int) ((val ((l.drop at_).take i) : Nat) : Int) (n : Int) (i : Int) = some (((val ((l.drop at_).take n) : Nat) : Int), true) := by
  induction d with
  | zero =>
    intro k i hi hd hk
    obtain ⟨k, rfl⟩ : ∃ m, k = m + 1 := ⟨k - 1, by omega⟩
    have : i = n := by omega
    subst this
    simp only [num_Get.l0]
    rw [if_neg (by omega)]
  | succ d ih =>
    intro k i hi hd hk
    obtain ⟨k, rfl⟩ : ∃ m, k = m + 1 := ⟨k - 1, by omega⟩
    have hb := hl l[at_ + i] (List.getElem_mem (by omega))
    obtain ⟨b, hb'⟩ : ∃ b : Nat, l[at_ + i] = (b : Int) ∧ b < 256 := ⟨l[at_ + i].toNat, by omega, by omega⟩
    have e3 := rd_at l (at_ + i) (by omega)
    have hv : val ((l.drop at_).take i) < 256 ^ i := by
      have := val_lt ((hl.drop at_).take i)
      rw [List.length_take, List.length_drop, Nat.min_eq_left (by omega)] at this
      exact this
    simp only [num_Get.l0]
    rw [if_pos (by omega), w64a at_ i (by omega), if_pos (by omega), if_pos (by omega), w8 i (by omega), if_pos (by omega), e3, hb'.1, u64_nat b (by omega), or_add _ b i hv hb'.2 (by omega), w64s i (by omega)]
    have hd' : i < (l.drop at_).length := by simp; omega
    have e6 : (l.drop at_)[i] = (b : Int) := by rw [List.getElem_drop]; exact hb'.1
    have e7 : val ((l.drop at_).take (i + 1)) = val ((l.drop at_).take i) + 256 ^ i * b := by
      rw [List.take_succ_eq_append_getElem hd', val_append, List.length_take, Nat.min_eq_left (by omega), e6]
      simp only [val, Int.toNat_natCast, Nat.mul_zero, Nat.add_zero]
    rw [← e7]
    exact ih k (i + 1) (by omega) (by omega) (by omega)
theorem nget (k : Nat) (l : List Int) (hl : isBytes l) (hlen : l.length < 100000) (at_ n : Nat) (h1 : 1 ≤ n) (hn : n ≤ 8) (h : at_ + n ≤ l.length) (hk : 8 < k) :
    num_Get.f k l (at_ : Int) (n : Int) = some (((val ((l.drop at_).take n) : Nat) : Int), true) := by
  have e : wrap64 ((l.length : Int) - (n : Int)) = ((l.length - n : Nat) : Int) := by unfold wrap64; omega
  have t : num_there.f l (at_ : Int) (n : Int) = some true := by
    unfold num_there.f
    rw [if_pos (by omega), if_pos (by omega), if_pos (by omega), e, decide_eq_true (by omega)]
  unfold num_Get.f
  rw [bs t, if_pos rfl]
  exact nget_l0 l hl hlen at_ n hn h n k 0 (by omega) (by omega) (by omega)
end Go.Proofs.Ytldoaddeaiappaa.Hand
end
