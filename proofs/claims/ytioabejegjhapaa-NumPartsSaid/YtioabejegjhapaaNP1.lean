/- gunnyref01.Of, walked: the word of sixty-four bits. -/
import Derived.Test.YtioabejegjhapaaNum
import Derived.Test.YtioabejegjhapaaRefBit
import Derived.Test.YtioabejegjhapaaFar
import Derived.Test.YtioabejegjhapaaOpens
import Derived.Handy
import Derived.OpenShut
namespace Go.Proofs.Ytioabejegjhapaa.NP
set_option linter.unusedVariables false
set_option linter.unusedSimpArgs false
open Go.RowKit Go.Proofs.Ytioabejegjhapaa.R Go.Proofs.Ytioabejegjhapaa.Bits Go.Proofs.Ytioabejegjhapaa.Num Go.Proofs.Ytioabejegjhapaa.RefBit Go.Proofs.Ytioabejegjhapaa.Hand Go.Proofs.YtioabejegjhapaaW.PrintWords Go.Proofs.YtioabejegjhapaaW.PrintLast Go.Proofs.YtioabejegjhapaaW.PrintMore

def bl (B : List Bool) : Array Value := (B.map Value.bool).toArray
def ofB : List Bool → Nat
  | [] => 0
  | b :: r => b.toNat + 2 * ofB r
theorem ofB_lt (B : List Bool) : ofB B < 2 ^ B.length := by
  induction B with
  | nil => simp [ofB]
  | cons b r ih =>
    simp only [ofB, List.length_cons, Nat.pow_succ]
    have : b.toNat ≤ 1 := Bool.toNat_le b
    omega
theorem ofB_bit (B : List Bool) : ∀ j, (ofB B).testBit j = B.getD j false := by
  induction B with
  | nil => intro j; simp [ofB]
  | cons b r ih =>
    intro j
    simp only [ofB]
    cases j with
    | zero =>
      simp only [List.getD_cons_zero]
      cases b <;> simp [Nat.testBit_zero] <;> omega
    | succ j =>
      rw [List.getD_cons_succ, ← ih j, Nat.testBit_succ]
      congr 1
      cases b <;> simp <;> omega

theorem bl_cell {w : World} {g : Nat} {B : List Bool} (hb : w.heap[g]? = some (.cells (bl B) 46 (0, 0))) {o : Nat} {q : Bool} (hq : B[o]? = some q) : w.cell? ⟨g, o, none⟩ = some (.bool q) := by
  rw [blk_cell hb]
  unfold bl
  simp [hq]
theorem bl_set {w : World} {g : Nat} {B : List Bool} (hb : w.heap[g]? = some (.cells (bl B) 46 (0, 0))) (o : Nat) (q : Bool) : (w.setCell ⟨g, o, none⟩ (.bool q)).heap[g]? = some (.cells (bl (B.set o q)) 46 (0, 0)) := by
  refine blk_put hb o (.bool q) ?_
  unfold bl
  simp
theorem w64s (x : Nat) (h : x < 9223372036854775807) : wrap64 ((x : Int) + 1) = ((x + 1 : Nat) : Int) := by unfold wrap64; omega
theorem w64p (x : Nat) (h : x < 9223372036854775807) : wrap64 ((x : Int) - 1) = (x : Int) - 1 := by unfold wrap64; omega

theorem dbl (a : Nat) (h : a < 9223372036854775808) : IntKind.u64.wrap ((a : Int) * 2) = ((2 * a : Nat) : Int) := by rw [u64w]; omega
theorem inc (a : Nat) (h : a < 9223372036854775808) : IntKind.u64.wrap (((2 * a : Nat) : Int) + 1) = ((1 + 2 * a : Nat) : Int) := by rw [u64w]; omega

set_option maxHeartbeats 8000000 in
set_option maxRecDepth 100000 in
theorem of_calls (B : List Bool) (hB : B.length = 64) (w : World) :
    Calls Try.prog 25 #[.agg (bl B)] w fun e w' => e = .returned (.int .u64 ((ofB B : Nat) : Int)) ∧ Below w.heap.size w w' := by
  obtain ⟨A, hA⟩ : ∃ A : Array Value, A = bl B := ⟨_, rfl⟩
  rw [← hA]
  have hn : (w.alloc (.cells A 46 (0, 0))).heap[w.heap.size]? = some (.cells (bl B) 46 (0, 0)) := by rw [hA]; exact blk_new w _
  replace hA := Aside0.mk hA
  replace hn := Aside0.mk hn
  replace hB := Aside0.mk hB
  go_enter Try.func25, Try.ntmps25
  go_wp2
  go_loopg [3, 4] 64 (fun kq v3 v4 w' => ∃ (p : Nat), v3 = .int .u64 ((ofB (B.drop p) : Nat) : Int) ∧ v4 = .int .i64 ((p : Int) - 1) ∧ Aside0 (p = kq ∧ p ≤ 64) ∧ Drawn0 (w.alloc (.cells A 46 (0, 0))) w')
  case atStart => exact ⟨64, by rw [List.drop_eq_nil_of_le (by have := hB.out; omega)]; rfl, rfl, ⟨rfl, by omega⟩, Drawn0.refl _⟩
  case round =>
    obtain ⟨p, rfl, rfl, HK, ⟨⟨nq, rfl⟩⟩⟩ := hrel
    cases gk with
    | zero =>
      obtain rfl : p = 0 := HK.out.1
      have e : ((0 : Nat) : Int) - 1 = -1 := by decide
      rw [e, List.drop_zero]
      go_wp2
      go_returns
      exact ⟨rfl, by repeat (with_reducible first | exact Below.refl _ _ | refine pw_below_drewN ?_ _ | refine below_alloc ?_ _)⟩
    | succ k1 =>
      obtain rfl : p = k1 + 1 := HK.out.1
      have h64 : k1 < 64 := by have := HK.out.2; omega
      have e : ((k1 + 1 : Nat) : Int) - 1 = (k1 : Int) := by omega
      rw [e]
      have hb2 := hB.out
      obtain ⟨b, hb⟩ : ∃ b, B[k1]? = some b := ⟨_, List.getElem?_eq_getElem (by omega)⟩
      have hd : B.drop k1 = b :: B.drop (k1 + 1) := by
        rw [List.drop_eq_getElem_cons (by omega)]
        have := (List.getElem?_eq_some_iff.1 hb).2
        rw [this]
      have hlt : ofB (B.drop (k1 + 1)) < 9223372036854775808 := by
        have h1 := ofB_lt (B.drop (k1 + 1))
        have h2 : (2 : Nat) ^ (B.drop (k1 + 1)).length ≤ 2 ^ 63 := Nat.pow_le_pow_right (by decide) (by rw [List.length_drop]; omega)
        have h3 : (2 : Nat) ^ 63 = 9223372036854775808 := by decide +kernel
        omega
      have hv : ofB (B.drop k1) = b.toNat + 2 * ofB (B.drop (k1 + 1)) := by rw [hd]; rfl
      obtain ⟨a, ha⟩ : ∃ a, a = ofB (B.drop (k1 + 1)) := ⟨_, rfl⟩
      rw [← ha] at hlt hv ⊢
      have cc : ∀ n, ((w.alloc (.cells A 46 (0, 0))).drewN n).cell? ⟨w.heap.size, k1, none⟩ = some (.bool b) := fun n => bl_cell (blk_drewN hn.out n) hb
      have d1 : decide ((k1 : Int) ≥ 0) = true := decide_eq_true (by omega)
      have d2 : decide ((k1 : Int) < 64) = true := decide_eq_true (by omega)
      have d2n : decide (k1 < 64) = true := decide_eq_true (by omega)
      have D := Aside0.mk (dbl a hlt)
      have I := Aside0.mk (inc a hlt)
      have P1 := Aside0.mk (w64p k1 (by omega))
      replace hlt := Aside0.mk hlt
      replace hv := Aside0.mk hv
      replace hd := Aside0.mk hd
      replace hb := Aside0.mk hb
      replace ha := Aside0.mk ha
      replace hb2 := Aside0.mk hb2
      cases b with
      | true =>
        go_wp2
        go_roundg k1
        case measure => have := HK.out; omega
        case rel => exact ⟨k1, by rw [hv.out]; first | rfl | (exact congrArg (Value.int .u64) (by rw [D.out, I.out]; rfl)), by first | rfl | exact congrArg (Value.int .i64) P1.out, ⟨rfl, by omega⟩, ⟨⟨_, rfl⟩⟩⟩
      | false =>
        go_wp2
        go_roundg k1
        case measure => have := HK.out; omega
        case rel => exact ⟨k1, by rw [hv.out]; first | rfl | (exact congrArg (Value.int .u64) (by rw [D.out]; simp)), by first | rfl | exact congrArg (Value.int .i64) P1.out, ⟨rfl, by omega⟩, ⟨⟨_, rfl⟩⟩⟩

end Go.Proofs.Ytioabejegjhapaa.NP
