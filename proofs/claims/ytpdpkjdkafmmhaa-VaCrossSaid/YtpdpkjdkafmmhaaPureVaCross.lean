/- Proves VaCross: the pages in which any bytes lie are the document's. No condition. -/
import Derived.Test.YtpdpkjdkafmmhaaVaCanon
import Derived.Test.YtpdpkjdkafmmhaaRx5
import Derived.OpenShut
namespace Go.Proofs.Ytpdpkjdkafmmhaa.Pure
open Go.RowKit Go.Proofs.Ytpdpkjdkafmmhaa.R Go.Proofs.Ytpdpkjdkafmmhaa.Bits Go.Proofs.Ytpdpkjdkafmmhaa.Num Go.Proofs.Ytpdpkjdkafmmhaa.Va Go.Proofs.YtpdpkjdkafmmhaaW.PrintWords Go.Proofs.YtpdpkjdkafmmhaaW.PrintMore

theorem vc_lives (k : Nat) (h : 40 ≤ k) : gunnylaw30_lives.f k = some true := by
  have e : gunnylaw30_lives.f 40 = some true := by decide +kernel
  exact at_rounds (fun k => gunnylaw30_lives.mono k) h e

/-- The pages of the first i bytes, with no overflow. -/
def pages (a i : Nat) : List Int := if i = 0 then [] else if (a + i - 1) / 4096 = a / 4096 then [((a - a % 4096 : Nat) : Int)] else [((a - a % 4096 : Nat) : Int), ((a + i - 1 - (a + i - 1) % 4096 : Nat) : Int)]

theorem byte_eq (a i : Nat) (h : a + i < 18446744073709551616) : IntKind.u64.wrap ((a : Int) + IntKind.u64.wrap (i : Int)) = ((a + i : Nat) : Int) := by rw [u64w, u64w]; omega
theorem byte_mod (a i : Nat) (_h : i < 18446744073709551616) : IntKind.u64.wrap ((a : Int) + IntKind.u64.wrap (i : Int)) = (((a + i) % 18446744073709551616 : Nat) : Int) := by rw [u64w, u64w]; omega
theorem base_eq (b : Nat) (h : b < 18446744073709551616) : IntKind.u64.wrap ((b : Int) - Int.tmod (b : Int) 4096) = ((b - b % 4096 : Nat) : Int) := by
  rw [Int.tmod_eq_emod_of_nonneg (by omega), u64w]; omega

theorem ref_bad (a n i1 : Nat) (_ha : a < 18446744073709551616) (hn : n ≤ 64) (hi1 : i1 < n)
    (hbad : (a + i1) % 18446744073709551616 < a ∨ sp ((a + i1) % 18446744073709551616) ≠ (a + i1) % 18446744073709551616) (d : Nat) :
    ∀ (k i : Nat) (L : List Int), i + d = i1 → L.length ≤ i → 2 * d + 100 < k → gunnyref30_Cross.l0 k (a : Int) (n : Int) L (i : Int) = some ([], false) := by
  induction d with
  | zero =>
    intro k i L hi hL hk
    obtain ⟨k, rfl⟩ : ∃ m, k = m + 2 := ⟨k - 2, by omega⟩
    obtain rfl : i = i1 := by omega
    have hb : (a + i) % 18446744073709551616 < 18446744073709551616 := Nat.mod_lt _ (by omega)
    simp only [gunnyref30_Cross.l0]
    rw [if_pos (by omega), byte_mod a i (by omega)]
    by_cases h : (((a + i) % 18446744073709551616 : Nat) : Int) < (a : Int)
    · rw [if_pos h]
      simp only [gunnyref30_Cross.j2, if_true]
    · rw [if_neg h, bs (rcanon _ hb (k + 1) (by omega))]
      have : sp ((a + i) % 18446744073709551616) ≠ (a + i) % 18446744073709551616 := by
        rcases hbad with hbad | hbad
        · omega
        · exact hbad
      rw [decide_eq_false this]
      simp only [gunnyref30_Cross.j2, Bool.not_false, if_true]
  | succ d ih =>
    intro k i L hi hL hk
    obtain ⟨k, rfl⟩ : ∃ m, k = m + 2 := ⟨k - 2, by omega⟩
    have hb : (a + i) % 18446744073709551616 < 18446744073709551616 := Nat.mod_lt _ (by omega)
    have e4 : wrap64 ((i : Int) + 1) = ((i + 1 : Nat) : Int) := by unfold wrap64; omega
    simp only [gunnyref30_Cross.l0]
    rw [if_pos (by omega), byte_mod a i (by omega)]
    by_cases h : (((a + i) % 18446744073709551616 : Nat) : Int) < (a : Int)
    · rw [if_pos h]
      simp only [gunnyref30_Cross.j2, if_true]
    · rw [if_neg h, bs (rcanon _ hb (k + 1) (by omega))]
      by_cases hc : sp ((a + i) % 18446744073709551616) = (a + i) % 18446744073709551616
      · rw [decide_eq_true hc]
        simp only [gunnyref30_Cross.j2, Bool.not_true, Bool.false_eq_true, if_false]
        have r1 := fun L hL => ih k (i + 1) L (by omega) hL (by omega)
        have hlen : wrap64 ((L.length : Int) - 1) = (L.length : Int) - 1 := by unfold wrap64; omega
        by_cases h0 : (L.length : Int) = 0
        · rw [if_pos h0, if_pos (by omega), e4]
          exact r1 _ (by simp; omega)
        · rw [if_neg h0, hlen, if_pos (by omega), if_pos (by omega), e4]
          split
          · exact r1 _ (by omega)
          · rw [if_pos (by omega)]
            exact r1 _ (by simp; omega)
      · rw [decide_eq_false hc]
        simp only [gunnyref30_Cross.j2, Bool.not_false, if_true]

theorem ref_good (a n : Nat) (hn : n ≤ 64) (hgood : ∀ i, i < n → a + i < 18446744073709551616 ∧ sp (a + i) = a + i) (d : Nat) :
    ∀ (k i : Nat), i + d = n → 2 * d + 100 < k → gunnyref30_Cross.l0 k (a : Int) (n : Int) (pages a i) (i : Int) = some (pages a n, true) := by
  induction d with
  | zero =>
    intro k i hi hk
    obtain ⟨k, rfl⟩ : ∃ m, k = m + 2 := ⟨k - 2, by omega⟩
    obtain rfl : i = n := by omega
    simp only [gunnyref30_Cross.l0]
    rw [if_neg (by omega)]
  | succ d ih =>
    intro k i hi hk
    obtain ⟨k, rfl⟩ : ∃ m, k = m + 2 := ⟨k - 2, by omega⟩
    obtain ⟨hg1, hg2⟩ := hgood i (by omega)
    have e4 : wrap64 ((i : Int) + 1) = ((i + 1 : Nat) : Int) := by unfold wrap64; omega
    have r1 := ih k (i + 1) (by omega) (by omega)
    simp only [gunnyref30_Cross.l0]
    rw [if_pos (by omega), byte_eq a i hg1, if_neg (by omega), bs (rcanon _ hg1 (k + 1) (by omega)), decide_eq_true hg2]
    simp only [gunnyref30_Cross.j2, Bool.not_true, Bool.false_eq_true, if_false]
    rw [base_eq _ hg1, e4]
    clear ih hgood e4
    by_cases h0 : i = 0
    · subst h0
      have e0 : pages a 0 = [] := rfl
      have e1 : pages a (0 + 1) = [((a - a % 4096 : Nat) : Int)] := by unfold pages; rw [if_neg (by omega), if_pos (by omega)]
      rw [e1] at r1
      rw [e0]
      simp only [List.length_nil, Int.natCast_zero, if_true, List.nil_append, Nat.add_zero]
      rw [if_pos (by omega)]
      exact r1
    · by_cases h1 : (a + i - 1) / 4096 = a / 4096
      · have e0 : pages a i = [((a - a % 4096 : Nat) : Int)] := by unfold pages; rw [if_neg h0, if_pos h1]
        rw [e0]
        have l1 : (([((a - a % 4096 : Nat) : Int)] : List Int).length : Int) = 1 := rfl
        have l2 : ([((a - a % 4096 : Nat) : Int)] : List Int).length < 17592186044416 := by show 1 < 17592186044416; omega
        have l3 : rd [((a - a % 4096 : Nat) : Int)] 0 = ((a - a % 4096 : Nat) : Int) := rfl
        have l4 : wrap64 (1 - 1) = 0 := by decide +kernel
        rw [l1, if_neg (by omega), l4, if_pos (by omega), if_pos (by omega), l3]
        by_cases h2 : (a + i) / 4096 = a / 4096
        · rw [if_pos (by omega)]
          have e1 : pages a (i + 1) = [((a - a % 4096 : Nat) : Int)] := by unfold pages; rw [if_neg (by omega), if_pos (by omega)]
          rw [e1] at r1
          exact r1
        · rw [if_neg (by omega), if_pos l2]
          have e1 : pages a (i + 1) = [((a - a % 4096 : Nat) : Int), ((a + i - (a + i) % 4096 : Nat) : Int)] := by
            unfold pages
            rw [if_neg (by omega), if_neg (by omega)]
            have : a + (i + 1) - 1 = a + i := by omega
            rw [this]
          rw [e1] at r1
          exact r1
      · have e0 : pages a i = [((a - a % 4096 : Nat) : Int), ((a + i - 1 - (a + i - 1) % 4096 : Nat) : Int)] := by unfold pages; rw [if_neg h0, if_neg h1]
        rw [e0]
        have l1 : (([((a - a % 4096 : Nat) : Int), ((a + i - 1 - (a + i - 1) % 4096 : Nat) : Int)] : List Int).length : Int) = 2 := rfl
        have l3 : rd [((a - a % 4096 : Nat) : Int), ((a + i - 1 - (a + i - 1) % 4096 : Nat) : Int)] 1 = ((a + i - 1 - (a + i - 1) % 4096 : Nat) : Int) := rfl
        have l4 : wrap64 (2 - 1) = 1 := by decide +kernel
        rw [l1, if_neg (by omega), l4, if_pos (by omega), if_pos (by omega), l3, if_pos (by omega)]
        have e1 : pages a (i + 1) = [((a - a % 4096 : Nat) : Int), ((a + i - 1 - (a + i - 1) % 4096 : Nat) : Int)] := by
          unfold pages
          rw [if_neg (by omega), if_neg (by omega)]
          have : a + (i + 1) - 1 - (a + (i + 1) - 1) % 4096 = a + i - 1 - (a + i - 1) % 4096 := by omega
          rw [this]
        rw [e1] at r1
        exact r1

theorem va_base (a : Nat) (h : sp a = a) : sp (4096 * (a % 281474976710656 / 4096)) = a - a % 4096 := by
  unfold sp at h ⊢
  split at h <;> split <;> omega

theorem between (a n i : Nat) (hn : n ≤ 64) (hi : i < n) (h1 : a + (n - 1) < 18446744073709551616) (h2 : sp a = a) (h3 : sp (a + (n - 1)) = a + (n - 1)) : sp (a + i) = a + i := by
  unfold sp at h2 h3 ⊢
  split at h2 <;> split at h3 <;> split <;> omega

theorem va_true (k : Nat) (a n : Int) : va_Cross.j0 (k + 1) a n true = some ([], false) := by simp only [va_Cross.j0, if_true]
theorem va1_true (k : Nat) (a n : Int) : va_Cross.j1 (k + 1) a n true = some ([], false) := by simp only [va_Cross.j1, if_true]
theorem ref_true (k : Nat) (a n : Int) : gunnyref30_Cross.j0 (k + 1) a n true = some ([], false) := by simp only [gunnyref30_Cross.j0, if_true]

theorem same_out (a : Nat) (ha : a < 18446744073709551616) (n : Int) : ∃ r, va_Cross.f 400 (a : Int) n = some r ∧ gunnyref30_Cross.f 400 (a : Int) n = some r ∧ r.1.length ≤ 64 := by
  unfold va_Cross.f gunnyref30_Cross.f
  by_cases h1 : n < 1
  · rw [if_pos h1, if_pos h1]; exact ⟨_, va_true _ _ _, ref_true _ _ _, by simp⟩
  · rw [if_neg h1, if_neg h1]
    by_cases h2 : n > 64
    · rw [decide_eq_true h2]; exact ⟨_, va_true _ _ _, ref_true _ _ _, by simp⟩
    · rw [decide_eq_false h2]
      obtain ⟨n, rfl⟩ : ∃ m : Nat, n = m := ⟨n.toNat, by omega⟩
      simp only [va_Cross.j0, gunnyref30_Cross.j0, Bool.false_eq_true, if_false]
      have ew : wrap64 ((n : Int) - 1) = ((n - 1 : Nat) : Int) := by unfold wrap64; omega
      rw [ew, byte_mod a (n - 1) (by omega)]
      have hb : (a + (n - 1)) % 18446744073709551616 < 18446744073709551616 := Nat.mod_lt _ (by omega)
      have bad : ∀ i1, i1 < n → ((a + i1) % 18446744073709551616 < a ∨ sp ((a + i1) % 18446744073709551616) ≠ (a + i1) % 18446744073709551616) → gunnyref30_Cross.l0 399 (a : Int) (n : Int) [] 0 = some ([], false) :=
        fun i1 h3 h4 => ref_bad a n i1 ha (by omega) h3 h4 i1 399 0 [] (by omega) (by simp) (by omega)
      by_cases h3 : (((a + (n - 1)) % 18446744073709551616 : Nat) : Int) < (a : Int)
      · rw [if_pos h3, va1_true]
        exact ⟨_, rfl, bad (n - 1) (by omega) (.inl (by omega)), by simp⟩
      · rw [if_neg h3, bs (canon_some 398 a ha)]
        by_cases h4 : sp a = a
        · rw [decide_eq_true h4, if_pos rfl, bs (canon_some 398 _ hb)]
          by_cases h5 : sp ((a + (n - 1)) % 18446744073709551616) = (a + (n - 1)) % 18446744073709551616
          · rw [decide_eq_true h5]
            have h6 : a + (n - 1) < 18446744073709551616 := by omega
            rw [Nat.mod_eq_of_lt h6] at h5 ⊢
            have good := ref_good a n (by omega) (fun i hi => ⟨by omega, between a n i (by omega) hi h6 h4 h5⟩) n 399 0 (by omega) (by omega)
            refine ⟨(pages a n, true), ?_, good, ?_⟩
            · simp only [va_Cross.j1, Bool.not_true, Bool.false_eq_true, if_false]
              have p1 := page_some 397 a ha
              have p2 := page_some 397 (a + (n - 1)) h6
              have a1 := at_some 397 (a % 281474976710656 / 4096) (by omega)
              have a2 := at_some 397 ((a + (n - 1)) % 281474976710656 / 4096) (by omega)
              rw [va_base a h4] at a1
              rw [va_base _ h5] at a2
              rw [bs p1, bs a1, bs rfl, bs p2, bs p1]
              by_cases h7 : (((a + (n - 1)) % 281474976710656 / 4096 : Nat) : Int) = ((a % 281474976710656 / 4096 : Nat) : Int)
              · rw [if_pos h7]
                have : pages a n = [((a - a % 4096 : Nat) : Int)] := by
                  unfold pages
                  rw [if_neg (by omega), if_pos (by unfold sp at h4 h5; split at h4 <;> split at h5 <;> omega)]
                rw [this]
              · rw [if_neg h7, bs p2, bs a2, if_pos (by show 1 < 17592186044416; omega)]
                have : pages a n = [((a - a % 4096 : Nat) : Int), ((a + (n - 1) - (a + (n - 1)) % 4096 : Nat) : Int)] := by
                  unfold pages
                  rw [if_neg (by omega), if_neg (by omega)]
                  have : a + n - 1 = a + (n - 1) := by omega
                  rw [this]
                rw [this]
                rfl
            · unfold pages; split
              · simp
              · split <;> simp
          · rw [decide_eq_false h5]
            exact ⟨_, va1_true _ _ _, bad (n - 1) (by omega) (.inr h5), by simp⟩
        · rw [decide_eq_false h4, if_neg (by decide), va1_true]
          refine ⟨_, rfl, bad 0 (by omega) (.inr ?_), by simp⟩
          rw [Nat.add_zero, Nat.mod_eq_of_lt ha]; exact h4

theorem law_l0 (l : List Int) (hl : l.length ≤ 64) (d : Nat) : ∀ (k i : Nat), i + d = l.length → d + 50 < k → gunnylaw30_VaCross.l0 k l l (i : Int) = some true := by
  induction d with
  | zero =>
    intro k i hi hk
    obtain ⟨k, rfl⟩ : ∃ m, k = m + 1 := ⟨k - 1, by omega⟩
    simp only [gunnylaw30_VaCross.l0]
    rw [if_neg (by omega), bs (vc_lives k (by omega))]
  | succ d ih =>
    intro k i hi hk
    obtain ⟨k, rfl⟩ : ∃ m, k = m + 1 := ⟨k - 1, by omega⟩
    have e4 : wrap64 ((i : Int) + 1) = ((i + 1 : Nat) : Int) := by unfold wrap64; omega
    simp only [gunnylaw30_VaCross.l0]
    rw [if_pos (by omega), if_pos (by omega), if_pos (by omega), if_pos trivial, e4]
    exact ih k (i + 1) (by omega) (by omega)

theorem VaCross : gunnylaw30_VaCross.Pure := by
  intro a n ha _
  have ba := bounds_u64 ha
  obtain ⟨a, rfl⟩ : ∃ n : Nat, a = n := ⟨a.toNat, by omega⟩
  obtain ⟨r, e1, e2, hl⟩ := same_out a (by omega) n
  refine ⟨400, ?_⟩
  unfold gunnylaw30_VaCross.f
  rw [bs e1, bs e2]
  have n1 : (r.2 != r.2) = false := by simp
  have n2 : ((r.1.length : Int) != (r.1.length : Int)) = false := by simp
  rw [n1, if_neg (by decide), n2]
  simp only [gunnylaw30_VaCross.j0, Bool.false_eq_true, if_false]
  exact law_l0 r.1 hl r.1.length 399 0 (by omega) (by omega)

end Go.Proofs.Ytpdpkjdkafmmhaa.Pure
