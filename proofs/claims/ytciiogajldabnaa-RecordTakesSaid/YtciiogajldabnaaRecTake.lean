/- The records of bytes, as record and gunnyref23 tell them; both ways back. No program's memory. -/
import Derived.Test.YtciiogajldabnaaRecSpec
namespace Go.Proofs.Ytciiogajldabnaa.Rec
set_option linter.unusedVariables false
set_option linter.unusedSimpArgs false
open Go.RowKit Go.Proofs.Ytciiogajldabnaa.R Go.Proofs.Ytciiogajldabnaa.Bits Go.Proofs.Ytciiogajldabnaa.Num Go.Proofs.YtciiogajldabnaaW.PrintWords Go.Proofs.YtciiogajldabnaaW.PrintMore

/-- The record of sixteen bytes, and whether it may be. -/
def dec (c : List Int) : S28 := ⟨((val (c.take 8) % 8 : Nat) : Int), ((val (c.take 8) / 8 % 8192 : Nat) : Int), ((val (c.take 8) / 65536 % 65536 : Nat) : Int), ((val ((c.drop 8).take 8) : Nat) : Int)⟩
def okC (c : List Int) : Prop := may (dec c) ∧ val (c.take 8) / 4294967296 = 0
instance (c : List Int) : Decidable (okC c) := by unfold okC; exact inferInstance

theorem val8_lt (c : List Int) (h : isBytes c) : val (c.take 8) < 18446744073709551616 := by
  have h1 := val_lt (h.take 8)
  have h2 : (256 : Nat) ^ (c.take 8).length ≤ 256 ^ 8 := Nat.pow_le_pow_right (by decide) (by rw [List.length_take]; omega)
  have h3 : (256 : Nat) ^ 8 = 18446744073709551616 := by decide +kernel
  omega

theorem one_some (k : Nat) (c : List Int) (h : isBytes c) (hl : c.length = 16) (hk : 20 < k) : record_one.f k c = some ((dec c).f0, (dec c).f1, (dec c).f2, (dec c).f3, decide (okC c)) := by
  obtain ⟨m, hm⟩ : ∃ m, k = m + 1 := ⟨k - 1, by omega⟩
  have v8 := val8_lt c h
  have g1 : num_Get.f k c 0 8 = some (((val (c.take 8) : Nat) : Int), true) := by
    have := nget k c h (by omega) 0 8 (by omega) (by omega) (by omega) (by omega)
    rw [List.drop_zero] at this
    exact this
  have g2 : num_Get.f k c 8 8 = some (((val ((c.drop 8).take 8) : Nat) : Int), true) := nget k c h (by omega) 8 8 (by omega) (by omega) (by omega) (by omega)
  have c1 : num_Cut.f k ((val (c.take 8) : Nat) : Int) 0 3 = some ((val (c.take 8) % 8 : Nat) : Int) := by
    rw [hm]
    have := cut_some m (val (c.take 8)) 0 3 v8 (by omega) (by omega)
    rw [Nat.pow_zero, Nat.div_one] at this
    exact this
  have c2 : num_Cut.f k ((val (c.take 8) : Nat) : Int) 3 13 = some ((val (c.take 8) / 8 % 8192 : Nat) : Int) := by rw [hm]; exact cut_some m (val (c.take 8)) 3 13 v8 (by omega) (by omega)
  have c3 : num_Cut.f k ((val (c.take 8) : Nat) : Int) 16 16 = some ((val (c.take 8) / 65536 % 65536 : Nat) : Int) := by rw [hm]; exact cut_some m (val (c.take 8)) 16 16 v8 (by omega) (by omega)
  have c4 : num_Cut.f k ((val (c.take 8) : Nat) : Int) 32 32 = some ((val (c.take 8) / 4294967296 % 4294967296 : Nat) : Int) := by rw [hm]; exact cut_some m (val (c.take 8)) 32 32 v8 (by omega) (by omega)
  unfold record_one.f
  rw [bs g1, bs g2, bs c1, bs c2, bs c3]
  have w1 := w64 (val (c.take 8) % 8) (by omega)
  have w2 := w64 (val (c.take 8) / 8 % 8192) (by omega)
  have w3 := w64 (val (c.take 8) / 65536 % 65536) (by omega)
  simp only [w1, w2, w3]
  rw [bs (may_some _ _ _ _)]
  by_cases hmay : may (dec c)
  · have hm' : mayP ((val (c.take 8) % 8 : Nat) : Int) ((val (c.take 8) / 8 % 8192 : Nat) : Int) ((val (c.take 8) / 65536 % 65536 : Nat) : Int) ((val ((c.drop 8).take 8) : Nat) : Int) := hmay
    rw [decide_eq_true hm', if_pos rfl, bs c4]
    refine congrArg some ?_
    have : ((((val (c.take 8) / 4294967296 % 4294967296 : Nat) : Int)) == 0) = decide (okC c) := by
      clear w1 w2 w3 c1 c2 c3 c4 g1 g2
      rw [Bool.eq_iff_iff, beq_iff_eq, decide_eq_true_iff]
      unfold okC
      constructor
      · intro h; exact ⟨hmay, by omega⟩
      · intro h; have := h.2; omega
    rw [this]
    rfl
  · have hm' : ¬ mayP ((val (c.take 8) % 8 : Nat) : Int) ((val (c.take 8) / 8 % 8192 : Nat) : Int) ((val (c.take 8) / 65536 % 65536 : Nat) : Int) ((val ((c.drop 8).take 8) : Nat) : Int) := hmay
    rw [decide_eq_false hm', if_neg (by decide), decide_eq_false (fun h => hmay h.1)]
    rfl

def takeS : Nat → List Int → Option (List S28)
  | 0, _ => some []
  | m + 1, b => if okC (b.take 16) then (takeS m (b.drop 16)).map (dec (b.take 16) :: ·) else none
def takeR (acc : List S28) : Option (List S28) → List S28 × Int
  | some xs => (acc ++ xs, 0)
  | none => ([], 3)
theorem takeS_length (m : Nat) : ∀ b xs, takeS m b = some xs → xs.length = m := by
  induction m with
  | zero => intro b xs h; simp [takeS] at h; simp [h]
  | succ m ih =>
    intro b xs h
    simp only [takeS] at h
    split at h
    · obtain ⟨c, hc, rfl⟩ := Option.map_eq_some_iff.mp h
      simp [ih _ _ hc]
    · simp at h

theorem take_l0 (b : List Int) (hb : isBytes b) (n : Nat) (hn : b.length = 16 * n) (hlen : n ≤ 1000) (m : Nat) : ∀ (k i : Nat) (acc : List S28), i + m = n → 40 + m ≤ k → acc.length ≤ i →
    record_Take.l0 k b acc ((16 * i : Nat) : Int) = some (takeR acc (takeS m (b.drop (16 * i)))) := by
  induction m with
  | zero =>
    intro k i acc hi hk ha
    obtain ⟨k, rfl⟩ : ∃ m, k = m + 1 := ⟨k - 1, by omega⟩
    simp only [record_Take.l0]
    rw [if_neg (by omega)]
    simp [takeS, takeR]
  | succ m ih =>
    intro k i acc hi hk ha
    obtain ⟨k, rfl⟩ : ∃ m, k = m + 1 := ⟨k - 1, by omega⟩
    have e1 : wrap64 (((16 * i : Nat) : Int) + 16) = ((16 * (i + 1) : Nat) : Int) := by unfold wrap64; omega
    have e2 : ((b.take (16 * (i + 1))).drop (16 * i)) = (b.drop (16 * i)).take 16 := by rw [List.drop_take]; refine congrArg (fun z => List.take z _) ?_; clear e1; omega
    have h1 := one_some k ((b.drop (16 * i)).take 16) ((hb.drop _).take _) (by rw [List.length_take, List.length_drop]; clear e1; omega) (by clear e1; omega)
    have c1 : ((16 * i : Nat) : Int) < (b.length : Int) := by clear e1; omega
    have c2 : ((16 * i : Nat) : Int) ≤ ((16 * (i + 1) : Nat) : Int) := by clear e1; omega
    have c3 : ((16 * (i + 1) : Nat) : Int) ≤ (b.length : Int) := by clear e1; omega
    have c4 : acc.length < 4398046511104 := by clear e1; omega
    have c5 : (0 : Int) ≤ ((16 * i : Nat) : Int) := by clear e1; omega
    simp only [record_Take.l0]
    rw [if_pos c1, if_pos c5, e1, if_pos c2, if_pos c3, Int.toNat_natCast, Int.toNat_natCast, e2, bs h1]
    simp only [takeS]
    have e3 : (b.drop (16 * i)).drop 16 = b.drop (16 * (i + 1)) := by rw [List.drop_drop]; rfl
    by_cases hok : okC ((b.drop (16 * i)).take 16)
    · rw [decide_eq_true hok, if_pos rfl, if_pos c4, if_pos hok, e3]
      clear e1
      rw [ih k (i + 1) (acc ++ [dec ((b.drop (16 * i)).take 16)]) (by omega) (by omega) (by simp; omega)]
      refine congrArg some ?_
      cases takeS m (b.drop (16 * (i + 1))) with
      | none => rfl
      | some xs => simp [takeR]
    · rw [decide_eq_false hok, if_neg (by decide), if_neg hok]
      rfl
theorem take_some (k : Nat) (b : List Int) (hb : isBytes b) (n : Nat) (hn : b.length = 16 * n) (hlen : n ≤ 1000) (hk : 40 + n ≤ k) : record_Take.f k b = some (takeR [] (takeS n b)) := by
  unfold record_Take.f
  rw [if_pos (by omega)]
  exact take_l0 b hb n hn hlen n k 0 [] (by omega) hk (by simp)
theorem take_none (k : Nat) (b : List Int) (h : b.length % 16 ≠ 0) : record_Take.f k b = some ([], 4) := by
  unfold record_Take.f
  rw [if_neg (by omega)]

/-! back -/
theorem dec_enc (x : S28) (hok : ok x) (h : may x) (c : List Int) (hc : c = enc x) : okC c ∧ dec c = x := by
  have hr := may_range x h hok.1
  have e1 : c.take 8 = le 8 (x.f0.toNat + 8 * x.f1.toNat + 65536 * x.f2.toNat) := by rw [hc]; unfold enc; rw [List.take_left' (le_length _ _)]
  have e2 : (c.drop 8).take 8 = le 8 x.f3.toNat := by rw [hc]; unfold enc; rw [List.drop_left' (le_length _ _), List.take_of_length_le (by rw [le_length]; exact Nat.le_refl _)]
  have h8 : (256 : Nat) ^ 8 = 18446744073709551616 := by decide +kernel
  have v1 : val (c.take 8) = x.f0.toNat + 8 * x.f1.toNat + 65536 * x.f2.toNat := by rw [e1, val_le, h8]; omega
  have v2 : val ((c.drop 8).take 8) = x.f3.toNat := by
    have := hok.2
    rw [e2, val_le, h8]; omega
  have d : dec c = x := by
    unfold dec
    rw [v1, v2]
    have a0 := hok.1
    have a1 : (((x.f0.toNat + 8 * x.f1.toNat + 65536 * x.f2.toNat) % 8 : Nat) : Int) = x.f0 := by omega
    have a2 : (((x.f0.toNat + 8 * x.f1.toNat + 65536 * x.f2.toNat) / 8 % 8192 : Nat) : Int) = x.f1 := by omega
    have a3 : (((x.f0.toNat + 8 * x.f1.toNat + 65536 * x.f2.toNat) / 65536 % 65536 : Nat) : Int) = x.f2 := by omega
    have a4 : ((x.f3.toNat : Nat) : Int) = x.f3 := by omega
    rw [a1, a2, a3, a4]
  refine ⟨⟨by rw [d]; exact h, by rw [v1]; omega⟩, d⟩
theorem take_put (xs : List S28) (hx : ∀ x ∈ xs, ok x) : ∀ b, putS xs = some b → takeS xs.length b = some xs := by
  induction xs with
  | nil => intro b _; rfl
  | cons x r ih =>
    intro b h
    simp only [putS] at h
    split at h
    · rename_i hm
      obtain ⟨c, hc, rfl⟩ := Option.map_eq_some_iff.mp h
      obtain ⟨h1, h2⟩ := dec_enc x (hx x (List.mem_cons_self ..)) hm ((enc x ++ c).take 16) (by rw [List.take_left' (enc_length x)])
      simp only [List.length_cons, takeS]
      rw [if_pos h1, h2, List.drop_left' (enc_length x), ih (fun y hy => hx y (List.mem_cons_of_mem _ hy)) c hc]
      rfl
    · simp at h
theorem putS_bytes (xs : List S28) : ∀ b, putS xs = some b → isBytes b := by
  induction xs with
  | nil => intro b h; simp [putS] at h; subst h; intro x hx; simp at hx
  | cons x r ih =>
    intro b h
    simp only [putS] at h
    split at h
    · obtain ⟨c, hc, rfl⟩ := Option.map_eq_some_iff.mp h
      exact ((isBytes.le _ _).app (isBytes.le _ _)).app (ih c hc)
    · simp at h
theorem enc_dec (c : List Int) (hb : isBytes c) (hl : c.length = 16) (h : okC c) : enc (dec c) = c := by
  have v8 := val8_lt c hb
  unfold enc dec
  simp only [Int.toNat_natCast]
  have h2 := h.2
  have e1 : val (c.take 8) % 8 + 8 * (val (c.take 8) / 8 % 8192) + 65536 * (val (c.take 8) / 65536 % 65536) = val (c.take 8) := by omega
  have l1 : (c.take 8).length = 8 := by rw [List.length_take]; omega
  have l2 : ((c.drop 8).take 8).length = 8 := by rw [List.length_take, List.length_drop]; omega
  have e2 := le_val (hb.take 8)
  have e3 := le_val ((hb.drop 8).take 8)
  rw [l1] at e2
  rw [l2] at e3
  rw [e1, e2, e3, List.take_of_length_le (l := c.drop 8) (by rw [List.length_drop]; omega), List.take_append_drop]
theorem put_take (n : Nat) : ∀ b, isBytes b → b.length = 16 * n → ∀ xs, takeS n b = some xs → putS xs = some b ∧ ∀ x ∈ xs, ok x := by
  induction n with
  | zero =>
    intro b hb hl xs h
    simp [takeS] at h
    subst h
    have : b = [] := List.eq_nil_of_length_eq_zero (by omega)
    subst this
    exact ⟨rfl, fun x hx => by simp at hx⟩
  | succ n ih =>
    intro b hb hl xs h
    simp only [takeS] at h
    split at h
    · rename_i hok
      obtain ⟨ys, hy, rfl⟩ := Option.map_eq_some_iff.mp h
      obtain ⟨h1, h2⟩ := ih (b.drop 16) (hb.drop 16) (by rw [List.length_drop]; omega) ys hy
      have hd : ok (dec (b.take 16)) := by
        have l2 : (((b.take 16).drop 8).take 8).length ≤ 8 := by rw [List.length_take]; omega
        have h3 := val_lt (((hb.take 16).drop 8).take 8)
        have h4 : (256 : Nat) ^ (((b.take 16).drop 8).take 8).length ≤ 256 ^ 8 := Nat.pow_le_pow_right (by decide) l2
        have h5 : (256 : Nat) ^ 8 = 18446744073709551616 := by decide +kernel
        unfold ok dec
        constructor <;> simp only [] <;> omega
      refine ⟨?_, ?_⟩
      · simp only [putS]
        rw [if_pos hok.1, h1, enc_dec _ (hb.take 16) (by rw [List.length_take]; omega) hok]
        simp
      · intro x hx
        rcases List.mem_cons.1 hx with rfl | hx
        · exact hd
        · exact h2 x hx
    · simp at h

end Go.Proofs.Ytciiogajldabnaa.Rec
