/- Proves VaParts: whether any address is canonical, its parts, and any page's address, are the document's. No condition. -/
import Derived.Test.YtpdpkjdkafmmhaaVa
import Derived.Test.YtpdpkjdkafmmhaaRx3
import Derived.OpenShut
namespace Go.Proofs.Ytpdpkjdkafmmhaa.Pure
open Go.RowKit Go.Proofs.Ytpdpkjdkafmmhaa.R Go.Proofs.Ytpdpkjdkafmmhaa.Bits Go.Proofs.Ytpdpkjdkafmmhaa.Num Go.Proofs.Ytpdpkjdkafmmhaa.Va Go.Proofs.YtpdpkjdkafmmhaaW.PrintWords Go.Proofs.YtpdpkjdkafmmhaaW.PrintMore

theorem vp_lives : gunnylaw30_lives.f 198 = some true := by decide +kernel

theorem rbit_l0 (p : Nat) (hp : p < 64) (d : Nat) : ∀ (k a i : Nat), a < 18446744073709551616 → i ≤ p → p - i = d → d < k → gunnyref01_Bit.l0 k (a : Int) (p : Int) (i : Int) = some (a / 2 ^ d % 2 == 1) := by
  induction d with
  | zero =>
    intro k a i ha hi hd hk
    obtain ⟨k, rfl⟩ : ∃ m, k = m + 1 := ⟨k - 1, by omega⟩
    simp only [gunnyref01_Bit.l0]
    rw [if_neg (by omega), Int.tmod_eq_emod_of_nonneg (by omega)]
    congr 1
    rw [Bool.eq_iff_iff, beq_iff_eq, beq_iff_eq]
    omega
  | succ d ih =>
    intro k a i ha hi hd hk
    obtain ⟨k, rfl⟩ : ∃ m, k = m + 1 := ⟨k - 1, by omega⟩
    simp only [gunnyref01_Bit.l0]
    rw [if_pos (by omega), Int.tdiv_eq_ediv_of_nonneg (by omega), u64w]
    have e1 : (a : Int) / 2 % 18446744073709551616 = ((a / 2 : Nat) : Int) := by omega
    have e2 : wrap64 ((i : Int) + 1) = ((i + 1 : Nat) : Int) := by unfold wrap64; omega
    rw [e1, e2, ih k (a / 2) (i + 1) (by omega) (by omega) (by omega) (by omega), Nat.div_div_eq_div_mul, Nat.pow_succ, Nat.mul_comm 2]

theorem rbit (k a p : Nat) (ha : a < 18446744073709551616) (hp : p < 64) (hk : 65 < k) : gunnyref01_Bit.f k (a : Int) (p : Int) = some (a / 2 ^ p % 2 == 1) := by
  obtain ⟨k, rfl⟩ : ∃ m, k = m + 1 := ⟨k - 1, by omega⟩
  unfold gunnyref01_Bit.f
  rw [if_neg (by omega), decide_eq_false (by omega)]
  simp only [gunnyref01_Bit.j0, Bool.false_eq_true, if_false]
  exact rbit_l0 p hp p k a 0 ha (by omega) (by omega) (by omega)

/-- What all bits from i on must be, for the answer to be yes. -/
def high (a d : Nat) : Nat := if a / 140737488355328 % 2 = 1 then 2 ^ d - 1 else 0

theorem rcanon_l0 (a : Nat) (ha : a < 18446744073709551616) (d : Nat) : ∀ (k i : Nat), i + d = 64 → d + 66 < k → gunnyref30_Canon.l0 k (a : Int) (i : Int) = some (decide (a / 2 ^ i = high a d)) := by
  induction d with
  | zero =>
    intro k i hi hk
    obtain ⟨k, rfl⟩ : ∃ m, k = m + 1 := ⟨k - 1, by omega⟩
    simp only [gunnyref30_Canon.l0]
    rw [if_neg (by omega)]
    obtain rfl : i = 64 := by omega
    congr 1
    have h1 : a / 2 ^ 64 = 0 := Nat.div_eq_of_lt ha
    have h2 : high a 0 = 0 := by unfold high; split <;> rfl
    rw [h1, h2]; rfl
  | succ d ih =>
    intro k i hi hk
    obtain ⟨k, rfl⟩ : ∃ m, k = m + 1 := ⟨k - 1, by omega⟩
    simp only [gunnyref30_Canon.l0]
    have e47 : gunnyref01_Bit.f k (a : Int) 47 = some (a / 140737488355328 % 2 == 1) := rbit k a 47 ha (by omega) (by omega)
    have e2 : wrap64 ((i : Int) + 1) = ((i + 1 : Nat) : Int) := by unfold wrap64; omega
    rw [if_pos (by omega), rbit k a i ha (by omega) (by omega), e47, e2, ih k (i + 1) (by omega) (by omega)]
    simp only [Option.bind_some]
    have hs : a / 2 ^ (i + 1) = a / 2 ^ i / 2 := by rw [Nat.pow_succ, ← Nat.div_div_eq_div_mul]
    rw [hs]
    generalize a / 2 ^ i = x
    have hp : 2 ^ (d + 1) = 2 * 2 ^ d := by rw [Nat.pow_succ, Nat.mul_comm]
    have hp0 : 0 < 2 ^ d := Nat.two_pow_pos d
    unfold high
    rw [hp]
    generalize 2 ^ d = y at *
    by_cases hb : a / 140737488355328 % 2 = 1
    · have b1 : (a / 140737488355328 % 2 == 1) = true := by rw [beq_iff_eq]; exact hb
      rw [b1, if_pos hb, if_pos hb]
      by_cases hx : x % 2 = 1
      · have b2 : (x % 2 == 1) = true := by rw [beq_iff_eq]; exact hx
        rw [b2, if_neg (by decide)]
        congr 1
        rw [decide_eq_decide]
        omega
      · have b2 : (x % 2 == 1) = false := by rw [beq_eq_false_iff_ne]; exact hx
        rw [b2, if_pos (by decide), decide_eq_false (by omega)]
    · have b1 : (a / 140737488355328 % 2 == 1) = false := by rw [beq_eq_false_iff_ne]; exact hb
      rw [b1, if_neg hb, if_neg hb]
      by_cases hx : x % 2 = 1
      · have b2 : (x % 2 == 1) = true := by rw [beq_iff_eq]; exact hx
        rw [b2, if_pos (by decide), decide_eq_false (by omega)]
      · have b2 : (x % 2 == 1) = false := by rw [beq_eq_false_iff_ne]; exact hx
        rw [b2, if_neg (by decide)]
        congr 1
        rw [decide_eq_decide]
        omega

theorem rcanon (a : Nat) (ha : a < 18446744073709551616) (k : Nat) (hk : 90 < k) : gunnyref30_Canon.f k (a : Int) = some (decide (sp a = a)) := by
  have e : gunnyref30_Canon.l0 k (a : Int) 48 = some (decide (a / 281474976710656 = high a 16)) := rcanon_l0 a ha 16 k 48 (by omega) (by omega)
  unfold gunnyref30_Canon.f
  rw [e]
  congr 1
  rw [decide_eq_decide]
  have e16 : (2 : Nat) ^ 16 = 65536 := by decide
  unfold high sp
  rw [e16]
  split <;> split <;> omega

theorem rpage (a : Nat) (ha : a < 18446744073709551616) : gunnyref30_Page.f (a : Int) = some ((a % 281474976710656 / 4096 : Nat) : Int) := by
  unfold gunnyref30_Page.f
  rw [Int.tmod_eq_emod_of_nonneg (by omega), Int.tdiv_eq_ediv_of_nonneg (by omega), u64w]
  congr 1
  unfold wrap64
  omega

theorem rindex (a l : Nat) (ha : a < 18446744073709551616) (hl : l < 4) (k : Nat) (hk : 10 < k) : gunnyref30_Index.f k (a : Int) (l : Int) = some ((idx a l : Nat) : Int) := by
  obtain ⟨k, rfl⟩ : ∃ m, k = m + 7 := ⟨k - 7, by omega⟩
  have hd : ∀ x y : Int, 0 ≤ x → Int.tdiv x y = x / y := fun x y h => Int.tdiv_eq_ediv_of_nonneg h
  unfold gunnyref30_Index.f idx
  rw [if_neg (by omega), decide_eq_false (by omega)]
  simp only [gunnyref30_Index.j0, Bool.false_eq_true, if_false]
  have e0 : IntKind.u64.wrap (Int.tdiv (a : Int) 4096) = ((a / 4096 : Nat) : Int) := by rw [Int.tdiv_eq_ediv_of_nonneg (by omega), u64w]; omega
  have es : ∀ x : Nat, x < 18446744073709551616 → IntKind.u64.wrap (Int.tdiv (x : Int) 512) = ((x / 512 : Nat) : Int) := by
    intro x hx; rw [Int.tdiv_eq_ediv_of_nonneg (by omega), u64w]; omega
  have em : ∀ x : Nat, x < 18446744073709551616 → wrap64 (Int.tmod (x : Int) 512) = ((x % 512 : Nat) : Int) := by
    intro x hx; rw [Int.tmod_eq_emod_of_nonneg (by omega)]; unfold wrap64; omega
  have w1 : wrap64 (0 + 1) = 1 := by decide +kernel
  have w2 : wrap64 (1 + 1) = 2 := by decide +kernel
  have w3 : wrap64 (2 + 1) = 3 := by decide +kernel
  rw [e0]
  have hl' : l = 0 ∨ l = 1 ∨ l = 2 ∨ l = 3 := by omega
  have hdd : ∀ m n : Nat, a / m / n = a / (m * n) := fun m n => Nat.div_div_eq_div_mul a m n
  rcases hl' with rfl | rfl | rfl | rfl
  · simp only [gunnyref30_Index.l0]
    rw [if_neg (by decide), em _ (by omega)]
  · simp only [gunnyref30_Index.l0]
    rw [if_pos (by decide), w1, if_neg (by decide), es _ (by omega), em _ (by omega), hdd]
  · simp only [gunnyref30_Index.l0]
    rw [if_pos (by decide), w1, if_pos (by decide), w2, if_neg (by decide), es _ (by omega), es _ (by omega), em _ (by omega), hdd, hdd]
  · simp only [gunnyref30_Index.l0]
    rw [if_pos (by decide), w1, if_pos (by decide), w2, if_pos (by decide), w3, if_neg (by decide), es _ (by omega), es _ (by omega), es _ (by omega), em _ (by omega), hdd, hdd, hdd]

theorem rindex_none (a l : Int) (hl : l < 0 ∨ 4 ≤ l) (k : Nat) : gunnyref30_Index.f (k + 1) a l = some 0 := by
  have t : gunnyref30_Index.j0 (k + 1) a l true = some 0 := by simp only [gunnyref30_Index.j0]; rfl
  unfold gunnyref30_Index.f
  by_cases h : l < 0
  · rw [if_pos h]; exact t
  · rw [if_neg h, decide_eq_true (by omega)]; exact t

theorem rup (a : Nat) (ha : a < 18446744073709551616) : gunnyref30_Up.f (a : Int) = some ((sp a : Nat) : Int) := by
  unfold gunnyref30_Up.f sp
  rw [Int.tmod_eq_emod_of_nonneg (by omega), u64w]
  by_cases h : a % 281474976710656 ≥ 140737488355328
  · rw [if_pos (by omega), if_pos h]; refine congrArg some ?_; omega
  · rw [if_neg (by omega), if_neg h]; exact congrArg some (by omega)

theorem VaParts : gunnylaw30_VaParts.Pure := by
  intro a l p ha hl hp
  have ba := bounds_u64 ha
  have bp := bounds_i64 hp
  obtain ⟨a, rfl⟩ : ∃ n : Nat, a = n := ⟨a.toNat, by omega⟩
  have ha : a < 18446744073709551616 := by omega
  refine ⟨200, ?_⟩
  have main : ∀ x : Int, va_At.f 198 p = some x → gunnylaw30_VaParts.j1 199 (a : Int) l p x = some true := by
    intro x hx
    simp only [gunnylaw30_VaParts.j1]
    have lv := vp_lives
    have ix : ∃ y, va_Index.f 198 (a : Int) l = some y ∧ gunnyref30_Index.f 198 (a : Int) l = some y := by
      by_cases h : l < 0 ∨ 4 ≤ l
      · exact ⟨0, index_none _ _ _ h, rindex_none _ _ h 197⟩
      · obtain ⟨l, rfl⟩ : ∃ n : Nat, l = n := ⟨l.toNat, by omega⟩
        exact ⟨_, index_some 197 a l ha (by omega), rindex a l ha (by omega) 198 (by omega)⟩
    obtain ⟨y, e1, e2⟩ := ix
    have eo : ((a % 4096 : Nat) : Int) = wrap64 (Int.tmod (a : Int) 4096) := by
      rw [Int.tmod_eq_emod_of_nonneg (by omega)]; unfold wrap64; omega
    rw [canon_some 197 a ha, rcanon a ha 198 (by omega), page_some 197 a ha, rpage a ha, offset_some 197 a ha, e1, e2, hx, lv, ← eo]
    simp
  have j1eq : ∀ y : Int, va_At.f 198 p = some y → gunnylaw30_VaParts.f 200 (a : Int) l p = some true := by
    intro y hy
    unfold gunnylaw30_VaParts.f
    by_cases h1 : p < 0
    · have := at_none 198 p (.inl h1)
      rw [if_neg (by omega)]
      simp only [gunnylaw30_VaParts.j0, Bool.false_eq_true, if_false]
      exact main 0 this
    · rw [if_pos (by omega)]
      by_cases h2 : p < 68719476736
      · rw [decide_eq_true h2]
        simp only [gunnylaw30_VaParts.j0, if_true]
        obtain ⟨q, rfl⟩ : ∃ n : Nat, p = n := ⟨p.toNat, by omega⟩
        have e : IntKind.u64.wrap (4096 * (IntKind.u64.wrap (q : Int))) = ((4096 * q : Nat) : Int) := by rw [u64w, u64w]; omega
        rw [e, rup (4096 * q) (by omega)]
        simp only [Option.bind_some]
        exact main _ (at_some 197 q (by omega))
      · rw [decide_eq_false h2]
        simp only [gunnylaw30_VaParts.j0, Bool.false_eq_true, if_false]
        exact main 0 (at_none 198 p (.inr (by omega)))
  by_cases h : p < 0 ∨ 68719476736 ≤ p
  · exact j1eq 0 (at_none 198 p h)
  · obtain ⟨q, hq⟩ : ∃ n : Nat, p = n := ⟨p.toNat, by omega⟩
    subst hq
    exact j1eq _ (at_some 197 q (by omega))

end Go.Proofs.Ytpdpkjdkafmmhaa.Pure
