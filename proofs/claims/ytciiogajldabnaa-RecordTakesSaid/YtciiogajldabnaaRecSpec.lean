/- What record's and gunnyref23's functions compute: whether a record may be, its bytes, the records of bytes. No program's memory. -/
import Derived.Test.YtciiogajldabnaaBytes
namespace Go.Proofs.Ytciiogajldabnaa.Rec
set_option linter.unusedVariables false
set_option linter.unusedSimpArgs false
open Go.RowKit Go.Proofs.Ytciiogajldabnaa.R Go.Proofs.Ytciiogajldabnaa.Bits Go.Proofs.Ytciiogajldabnaa.Num Go.Proofs.YtciiogajldabnaaW.PrintWords Go.Proofs.YtciiogajldabnaaW.PrintMore

def mayP (f n l w : Int) : Prop := (f = 0 ∧ n = 0 ∧ l = 0 ∧ w = 0) ∨ (f = 1 ∧ n = 0 ∧ l = 0) ∨ (f = 2 ∧ 1 ≤ n ∧ n ≤ 512 ∧ 1 ≤ l ∧ l ≤ 3072 ∧ w = 0) ∨ (f = 3 ∧ 1 ≤ n ∧ n ≤ 512 ∧ l = 4096 ∧ w = 0) ∨ (f = 4 ∧ 0 ≤ n ∧ n ≤ 127 ∧ l = 0 ∧ w = 0)
instance (f n l w : Int) : Decidable (mayP f n l w) := by unfold mayP; exact inferInstance

theorem may_some (f n l w : Int) : record_May.f f n l w = some (decide (mayP f n l w)) := by
  unfold record_May.f
  (repeat' split) <;> (refine congrArg some ?_; rw [Bool.eq_iff_iff, decide_eq_true_iff]; unfold mayP; first | (simp only [Bool.and_eq_true, beq_iff_eq, decide_eq_true_iff, Bool.false_eq_true, false_iff] at *; done) | (simp only [Bool.and_eq_true, beq_iff_eq, decide_eq_true_iff, Bool.false_eq_true, false_iff] at *; omega) | (simp at *; omega) | (simp_all; done) | (simp_all; omega))
theorem rmay_some (k : Nat) (f n l w : Int) : gunnyref23_May.f (k + 1) f n l w = some (decide (mayP f n l w)) := by
  unfold gunnyref23_May.f
  simp only [gunnyref23_May.j0]
  (repeat' split) <;> (refine congrArg some ?_; rw [Bool.eq_iff_iff, decide_eq_true_iff]; unfold mayP; first | (simp only [Bool.and_eq_true, beq_iff_eq, decide_eq_true_iff, Bool.false_eq_true, false_iff] at *; done) | (simp only [Bool.and_eq_true, beq_iff_eq, decide_eq_true_iff, Bool.false_eq_true, false_iff] at *; omega) | (simp at *; omega) | (simp_all; done) | (simp_all; omega))

def may (x : S28) : Prop := mayP x.f0 x.f1 x.f2 x.f3
instance (x : S28) : Decidable (may x) := by unfold may; exact inferInstance
def enc (x : S28) : List Int := le 8 (x.f0.toNat + 8 * x.f1.toNat + 65536 * x.f2.toNat) ++ le 8 x.f3.toNat
theorem enc_length (x : S28) : (enc x).length = 16 := by unfold enc; rw [List.length_append, le_length, le_length]

theorem set_lit (k a p w n m : Nat) (ha : a < 18446744073709551616) (hp : p < 64) (hw : 1 ≤ w) (hm : a + n % 2 ^ (min w (64 - p)) * 2 ^ p = m + a / 2 ^ p % 2 ^ (min w (64 - p)) * 2 ^ p) :
    num_Set.f (k + 1) (a : Int) (p : Int) (w : Int) (n : Int) = some (m : Int) := by
  rw [set_some k a p w n ha hp hw]
  exact congrArg some (by omega)

theorem fn8 (f n : Nat) (hf : f < 8) (hn : n < 8192) : IntKind.u64.wrap (wrap64 ((f : Int) + (wrap64 (8 * (n : Int))))) = ((f + 8 * n : Nat) : Int) := by
  rw [u64w]; unfold wrap64; omega
theorem refput_some (k : Nat) (f n l w : Nat) (hf : f < 8) (hn : n < 8192) (hl : l < 65536) (hw : w < 18446744073709551616) (hk : 8 < k) :
    gunnyref23_Put.f k (f : Int) (n : Int) (l : Int) (w : Int) = some (le 8 (f + 8 * n + 65536 * l) ++ le 8 w) := by
  have p1 : gunnyref01_Put.f k 2 ((f + 8 * n : Nat) : Int) = some (le 2 (f + 8 * n)) := rput k 2 (f + 8 * n) (by omega) (by omega) hk
  have p2 : gunnyref01_Put.f k 2 (l : Int) = some (le 2 l) := rput k 2 l (by omega) (by omega) hk
  have p3 : gunnyref01_Put.f k 8 (w : Int) = some (le 8 w) := rput k 8 w (by omega) hw hk
  unfold gunnyref23_Put.f
  rw [fn8 f n hf hn, u64_nat l (by omega), bs p1, bs p2, if_pos (by rw [le_length, le_length]; decide)]
  simp only [Option.bind_some]
  rw [if_pos (by simp [le_length]), bs p3, if_pos (by simp [le_length])]
  refine congrArg some ?_
  have h1 : le 8 (f + 8 * n + 65536 * l) = le 2 (f + 8 * n + 65536 * l) ++ (le 2 ((f + 8 * n + 65536 * l) / 256 ^ 2) ++ le 4 ((f + 8 * n + 65536 * l) / 256 ^ 2 / 256 ^ 2)) := by
    rw [← le_add, ← le_add]
  have h2 : le 2 (f + 8 * n + 65536 * l) = le 2 (f + 8 * n) := le_mod 2 _ _ (by show _ % 65536 = _ % 65536; omega)
  have h3 : (f + 8 * n + 65536 * l) / 256 ^ 2 = l := by show _ / 65536 = _; omega
  have h4 : l / 256 ^ 2 = 0 := by show _ / 65536 = _; omega
  rw [h1, h2, h3, h4]
  simp [le]

theorem may_range (x : S28) (h : may x) (hw : 0 ≤ x.f3) : 0 ≤ x.f0 ∧ x.f0 < 8 ∧ 0 ≤ x.f1 ∧ x.f1 < 8192 ∧ 0 ≤ x.f2 ∧ x.f2 < 65536 := by
  unfold may mayP at h
  omega
theorem refput_enc (k : Nat) (x : S28) (h : may x) (h0 : 0 ≤ x.f3) (h1 : x.f3 < 18446744073709551616) (hk : 8 < k) : gunnyref23_Put.f k x.f0 x.f1 x.f2 x.f3 = some (enc x) := by
  have hr := may_range x h h0
  have := refput_some k x.f0.toNat x.f1.toNat x.f2.toNat x.f3.toNat (by omega) (by omega) (by omega) (by omega) hk
  rw [show ((x.f0.toNat : Nat) : Int) = x.f0 by omega, show ((x.f1.toNat : Nat) : Int) = x.f1 by omega, show ((x.f2.toNat : Nat) : Int) = x.f2 by omega, show ((x.f3.toNat : Nat) : Int) = x.f3 by omega] at this
  exact this

/-! record.Put -/
def putS : List S28 → Option (List Int)
  | [] => some []
  | x :: r => if may x then (putS r).map (enc x ++ ·) else none
def putR (acc : List Int) : Option (List Int) → List Int × Int
  | some b => (acc ++ b, 0)
  | none => ([], 1)
def ok (x : S28) : Prop := 0 ≤ x.f3 ∧ x.f3 < 18446744073709551616
theorem rd28 (xs : List S28) (i : Nat) (h : i < xs.length) : rd_T28 xs (i : Int) = xs[i] := by
  unfold rd_T28
  simp [h]
theorem putS_length (xs : List S28) : ∀ b, putS xs = some b → b.length = 16 * xs.length := by
  induction xs with
  | nil => intro b h; simp [putS] at h; simp [h]
  | cons x r ih =>
    intro b h
    simp only [putS] at h
    split at h
    · obtain ⟨c, hc, rfl⟩ := Option.map_eq_some_iff.mp h
      rw [List.length_append, enc_length, ih c hc, List.length_cons]
      omega
    · simp at h

theorem put_l0 (xs : List S28) (hx : ∀ x ∈ xs, ok x) (hlen : xs.length ≤ 1000) (d : Nat) : ∀ (k i : Nat) (acc : List Int), i ≤ xs.length → xs.length - i = d → 60 + d ≤ k → acc.length ≤ 16 * i →
    record_Put.l0 k acc xs (xs.length : Int) (i : Int) = some (putR acc (putS (xs.drop i))) := by
  induction d with
  | zero =>
    intro k i acc hi hd hk ha
    obtain ⟨k, rfl⟩ : ∃ m, k = m + 1 := ⟨k - 1, by omega⟩
    simp only [record_Put.l0]
    rw [if_neg (by omega), List.drop_eq_nil_of_le (by omega)]
    simp [putS, putR]
  | succ d ih =>
    intro k i acc hi hd hk ha
    obtain ⟨q, rfl⟩ : ∃ m, k = m + 1 := ⟨k - 1, by omega⟩
    obtain ⟨k, hq⟩ : ∃ m, q = m + 1 := ⟨q - 1, by omega⟩
    have hi' : i < xs.length := by omega
    obtain ⟨x, ex⟩ : ∃ x, xs[i] = x := ⟨_, rfl⟩
    have e := rd28 xs i hi'
    have hok : ok x := by rw [← ex]; exact hx _ (List.getElem_mem _)
    simp only [record_Put.l0]
    rw [List.drop_eq_getElem_cons hi', ex]
    rw [ex] at e
    rw [if_pos (by omega), if_pos (by omega), if_pos (by omega), e, bs (may_some _ _ _ _)]
    simp only [putS]
    by_cases hm : may x
    · have hr := may_range x hm hok.1
      have e4 : x.f3 = ((x.f3.toNat : Nat) : Int) := by have := hok.1; omega
      have s1 : num_Set.f q ((x.f0.toNat : Nat) : Int) 3 13 ((x.f1.toNat : Nat) : Int) = some ((x.f0.toNat + 8 * x.f1.toNat : Nat) : Int) := by
        rw [hq]
        exact set_lit k _ 3 13 _ _ (by omega) (by omega) (by omega) (by show x.f0.toNat + x.f1.toNat % 8192 * 8 = x.f0.toNat + 8 * x.f1.toNat + x.f0.toNat / 8 % 8192 * 8; omega)
      have s2 : num_Set.f q ((x.f0.toNat + 8 * x.f1.toNat : Nat) : Int) 16 16 ((x.f2.toNat : Nat) : Int) = some ((x.f0.toNat + 8 * x.f1.toNat + 65536 * x.f2.toNat : Nat) : Int) := by
        rw [hq]
        exact set_lit k _ 16 16 _ _ (by omega) (by omega) (by omega) (by show x.f0.toNat + 8 * x.f1.toNat + x.f2.toNat % 65536 * 65536 = x.f0.toNat + 8 * x.f1.toNat + 65536 * x.f2.toNat + (x.f0.toNat + 8 * x.f1.toNat) / 65536 % 65536 * 65536; omega)
      have s3 := nput8 q (x.f0.toNat + 8 * x.f1.toNat + 65536 * x.f2.toNat) x.f3.toNat (by omega) (by have := hok.2; omega) (by omega)
      rw [← e4] at s3
      have hm' : mayP x.f0 x.f1 x.f2 x.f3 := hm
      rw [decide_eq_true hm', if_pos rfl, u64_int x.f0 hr.1 (by omega), u64_int x.f1 hr.2.2.1 (by omega), u64_int x.f2 hr.2.2.2.2.1 (by omega), bs s1, bs s2, bs s3, if_pos hm]
      have hl : (le 8 (x.f0.toNat + 8 * x.f1.toNat + 65536 * x.f2.toNat) ++ le 8 x.f3.toNat).length = 16 := enc_length x
      rw [hl, if_pos (by omega), w64s i (by omega), ih q (i + 1) (acc ++ (le 8 (x.f0.toNat + 8 * x.f1.toNat + 65536 * x.f2.toNat) ++ le 8 x.f3.toNat)) (by omega) (by omega) (by omega) (by rw [List.length_append, hl]; omega)]
      refine congrArg some ?_
      cases putS (xs.drop (i + 1)) with
      | none => rfl
      | some b => simp [putR, enc]
    · have hm' : ¬ mayP x.f0 x.f1 x.f2 x.f3 := hm
      rw [decide_eq_false hm', if_neg (by decide), if_neg hm]
      rfl
theorem put_some (k : Nat) (xs : List S28) (hx : ∀ x ∈ xs, ok x) (hlen : xs.length ≤ 1000) (hk : 60 + xs.length ≤ k) : record_Put.f k xs = some (putR [] (putS xs)) :=
  put_l0 xs hx hlen xs.length k 0 [] (by omega) (by omega) hk (by simp)

end Go.Proofs.Ytciiogajldabnaa.Rec
