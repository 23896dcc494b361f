/- NumKeeps, pure: what is put is got; what is laid is got, and changes no other byte; what is set is cut, and no other part is changed. -/
import Derived.Test.YtioabejegjhapaaBytes
import Derived.Test.YtioabejegjhapaaRx4
namespace Go.Proofs.Ytioabejegjhapaa.PureK
set_option linter.unusedVariables false
set_option linter.unusedSimpArgs false
open Go.RowKit Go.Proofs.Ytioabejegjhapaa.R Go.Proofs.Ytioabejegjhapaa.Bits Go.Proofs.Ytioabejegjhapaa.Num Go.Proofs.Ytioabejegjhapaa.Rec Go.Proofs.YtioabejegjhapaaW.PrintWords Go.Proofs.YtioabejegjhapaaW.PrintMore

theorem lives100 : gunnylaw01_lives.f 100 = some true := by decide +kernel
theorem lives_up (d : Nat) : gunnylaw01_lives.f (100 + d) = some true := by
  induction d with
  | zero => exact lives100
  | succ d ih => exact gunnylaw01_lives.mono _ _ ih
theorem lives_some (k : Nat) (h : 100 ≤ k) : gunnylaw01_lives.f k = some true := by
  have := lives_up (k - 100)
  rwa [show 100 + (k - 100) = k by omega] at this

/-! the parts of a word -/
theorem set_form (a n p m : Nat) (ha : a < 18446744073709551616) (h : p + m ≤ 64) :
    ∃ t : Nat, t < 18446744073709551616 ∧ t + a / 2 ^ p % 2 ^ m * 2 ^ p = a + n % 2 ^ m * 2 ^ p ∧ t / 2 ^ p % 2 ^ m = n % 2 ^ m := by
  have h1 := set_lt a n p m ha h
  have h2 := set_nat a n p m ha h
  obtain ⟨t, ht⟩ : ∃ t, t = ((a &&& (18446744073709551615 - (2 ^ m - 1) * 2 ^ p)) ||| (n * 2 ^ p % 18446744073709551616 &&& (2 ^ m - 1) * 2 ^ p)) := ⟨_, rfl⟩
  rw [← ht] at h1 h2
  refine ⟨t, h1, h2, ?_⟩
  have h3 := parts_nat a p m
  obtain ⟨c, hc⟩ : ∃ c, c = a / 2 ^ p % 2 ^ m := ⟨_, rfl⟩
  obtain ⟨e, he⟩ : ∃ e, e = n % 2 ^ m := ⟨_, rfl⟩
  obtain ⟨q, hq⟩ : ∃ q, q = a / 2 ^ (p + m) := ⟨_, rfl⟩
  obtain ⟨r, hr⟩ : ∃ r, r = a % 2 ^ p := ⟨_, rfl⟩
  have hr2 : r < 2 ^ p := by rw [hr]; exact Nat.mod_lt _ (Nat.two_pow_pos p)
  have he2 : e < 2 ^ m := by rw [he]; exact Nat.mod_lt _ (Nat.two_pow_pos m)
  rw [← hc, ← hq, ← hr] at h3
  rw [← hc, ← he] at h2
  rw [← he]
  have h4 : t = 2 ^ p * (2 ^ m * q + e) + r := by
    rw [Nat.mul_add] at h3 ⊢
    rw [Nat.mul_comm c, Nat.mul_comm e] at h2
    omega
  rw [h4, Nat.mul_add_div (Nat.two_pow_pos p), Nat.div_eq_of_lt hr2, Nat.add_zero, Nat.mul_add_mod, Nat.mod_eq_of_lt he2]

theorem third (x : Nat) (hx : x < 18446744073709551616) : IntKind.u64.wrap (Int.tdiv (x : Int) 3) = ((x / 3 : Nat) : Int) := by
  rw [Int.tdiv_eq_ediv_of_nonneg (by omega), u64w]; omega
theorem tail_ (k x p W : Nat) (hx : x < 18446744073709551616) (hp : p < 64) (hW : 1 ≤ W) (hk : 200 ≤ k) :
    gunnylaw01_NumKeeps.j5 (k + 1) (x : Int) (p : Int) (W : Int) false = some true := by
  obtain ⟨q, rfl⟩ : ∃ q, k = q + 1 := ⟨k - 1, by omega⟩
  have ht := third x hx
  obtain ⟨n, hn⟩ : ∃ n, n = x / 3 := ⟨_, rfl⟩
  rw [← hn] at ht
  have hn2 : n < 18446744073709551616 := by omega
  obtain ⟨m, hm⟩ : ∃ m, m = min W (64 - p) := ⟨_, rfl⟩
  have hm1 : 1 ≤ m := by omega
  have hpm : p + m ≤ 64 := by omega
  obtain ⟨t, t1, t2, t3⟩ := set_form x n p m hx hpm
  have es := set_some q x p W n hx hp hW
  rw [← hm] at es
  have e1 : (x : Int) - ((x / 2 ^ p % 2 ^ m * 2 ^ p : Nat) : Int) + ((n % 2 ^ m * 2 ^ p : Nat) : Int) = (t : Int) := by omega
  rw [e1] at es
  have ec := cut_some q t p W t1 hp hW
  rw [← hm, t3] at ec
  have ex := cut_some q x p W hx hp hW
  rw [← hm] at ex
  have en := cut_some q n 0 m hn2 (by omega) hm1
  have hm4 : min m (64 - 0) = m := by omega
  rw [hm4, Nat.pow_zero, Nat.div_one] at en
  have emn : mn (W : Int) (wrap64 (64 - (p : Int))) = (m : Int) := by
    have : wrap64 (64 - (p : Int)) = 64 - (p : Int) := by unfold wrap64; omega
    rw [this, hm]
    unfold mn
    split <;> omega
  have b1 : n % 2 ^ m * 2 ^ p < 18446744073709551616 := by
    have hlt : n % 2 ^ m < 2 ^ m := Nat.mod_lt _ (Nat.two_pow_pos m)
    have h1 : n % 2 ^ m * 2 ^ p < 2 ^ m * 2 ^ p := Nat.mul_lt_mul_of_pos_right hlt (Nat.two_pow_pos p)
    rw [← Nat.pow_add] at h1
    have h2 : (2 : Nat) ^ (m + p) ≤ 2 ^ 64 := Nat.pow_le_pow_right (by decide) (by omega)
    have h3 : (2 : Nat) ^ 64 = 18446744073709551616 := by decide +kernel
    omega
  have b2 : x / 2 ^ p % 2 ^ m * 2 ^ p < 18446744073709551616 := by
    have hlt : x / 2 ^ p % 2 ^ m < 2 ^ m := Nat.mod_lt _ (Nat.two_pow_pos m)
    have h1 : x / 2 ^ p % 2 ^ m * 2 ^ p < 2 ^ m * 2 ^ p := Nat.mul_lt_mul_of_pos_right hlt (Nat.two_pow_pos p)
    rw [← Nat.pow_add] at h1
    have h2 : (2 : Nat) ^ (m + p) ≤ 2 ^ 64 := Nat.pow_le_pow_right (by decide) (by omega)
    have h3 : (2 : Nat) ^ 64 = 18446744073709551616 := by decide +kernel
    omega
  have s1 := shl_nat (n % 2 ^ m) p (by omega)
  rw [Nat.mod_eq_of_lt b1] at s1
  have s2 := shl_nat (x / 2 ^ p % 2 ^ m) p (by omega)
  rw [Nat.mod_eq_of_lt b2] at s2
  simp only [gunnylaw01_NumKeeps.j5, Bool.false_eq_true, if_false]
  rw [ht, bs es, bs ec, emn]
  rw [show ((0 : Nat) : Int) = 0 from rfl] at en
  rw [bs en, if_pos rfl, bs ec, if_pos (by omega), bs ex, s1, s2, if_pos (by congr 1; omega), bs (lives_some _ (by omega))]

theorem j4_true (k x : Nat) (a W : Int) (hx : x < 18446744073709551616) (hk : 300 ≤ k) : gunnylaw01_NumKeeps.j4 k (x : Int) a W = some true := by
  obtain ⟨q, rfl⟩ : ∃ q, k = q + 1 + 1 := ⟨k - 2, by omega⟩
  have ht : gunnylaw01_NumKeeps.j5 (q + 1) (x : Int) a W true = some true := by
    simp only [gunnylaw01_NumKeeps.j5, if_true]
    rw [bs (lives_some _ (by omega))]
  simp only [gunnylaw01_NumKeeps.j4]
  by_cases h1 : a < 0
  · rw [if_pos h1]; exact ht
  · rw [if_neg h1]
    by_cases h2 : a > 63
    · rw [if_pos h2]; exact ht
    · rw [if_neg h2]
      by_cases h3 : W < 1
      · rw [decide_eq_true h3]; exact ht
      · rw [decide_eq_false h3]
        obtain ⟨p, rfl⟩ : ∃ p : Nat, a = (p : Int) := ⟨a.toNat, by omega⟩
        obtain ⟨w, rfl⟩ : ∃ w : Nat, W = (w : Int) := ⟨W.toNat, by omega⟩
        exact tail_ q x p w hx (by omega) (by omega) (by omega)

/-! what is laid -/
def laid (l : List Int) (a s x : Nat) : List Int := l.take a ++ le s x ++ l.drop (a + s)
theorem laid_length (l : List Int) (a s x : Nat) (h : a + s ≤ l.length) : (laid l a s x).length = l.length := by
  unfold laid
  rw [List.length_append, List.length_append, le_length, List.length_take, List.length_drop]
  omega
theorem laid_part (l : List Int) (a s x : Nat) (h : a + s ≤ l.length) : ((laid l a s x).drop a).take s = le s x := by
  unfold laid
  have h1 : (l.take a).length = a := by rw [List.length_take]; omega
  rw [List.append_assoc, List.drop_append_of_le_length (by omega), List.drop_of_length_le (by omega), List.nil_append, List.take_append_of_le_length (by rw [le_length]; omega), List.take_of_length_le (by rw [le_length]; omega)]
theorem laid_bytes (l : List Int) (hl : isBytes l) (a s x : Nat) : isBytes (laid l a s x) := ((hl.take a).app (isBytes.le s x)).app (hl.drop _)
theorem laid_rd (l : List Int) (a s x i : Nat) (h : a + s ≤ l.length) (hi : i < l.length) (ho : i < a ∨ a + s ≤ i) : rd (laid l a s x) (i : Int) = rd l (i : Int) := by
  have hL := laid_length l a s x h
  rw [rd_at _ i (by omega), rd_at l i hi]
  have h1 : (l.take a).length = a := by rw [List.length_take]; omega
  unfold laid
  rcases ho with ho | ho
  · rw [List.getElem_append_left (by rw [List.length_append]; omega), List.getElem_append_left (by omega), List.getElem_take]
  · rw [List.getElem_append_right (by rw [List.length_append, h1, le_length]; omega), List.getElem_drop]
    congr 1
    rw [List.length_append, h1, le_length]
    omega

theorem there_is (l : List Int) (hlen : l.length ≤ 300) (a s : Int) : num_there.f l a s = some (decide (1 ≤ s ∧ s ≤ 8 ∧ 0 ≤ a ∧ a + s ≤ l.length)) := by
  unfold num_there.f
  by_cases h1 : s ≥ 1
  · by_cases h2 : s ≤ 8
    · by_cases h3 : a ≥ 0
      · rw [if_pos h1, if_pos h2, if_pos h3]
        have e : wrap64 ((l.length : Int) - s) = (l.length : Int) - s := by unfold wrap64; omega
        rw [e]
        refine congrArg some (decide_eq_decide.2 ?_)
        omega
      · rw [if_pos h1, if_pos h2, if_neg h3, decide_eq_false (by omega)]
    · rw [if_pos h1, if_neg h2, decide_eq_false (by omega)]
  · rw [if_neg h1, decide_eq_false (by omega)]
theorem nlay_not (l : List Int) (hlen : l.length ≤ 300) (a s n : Int) (h : ¬ (1 ≤ s ∧ s ≤ 8 ∧ 0 ≤ a ∧ a + s ≤ l.length)) : num_Lay.f l a s n = some ([], false) := by
  unfold num_Lay.f
  rw [bs (there_is l hlen a s), decide_eq_false h, if_neg Bool.false_ne_true]

/-! num.Put of one number, and of two -/
theorem put1 (k n x : Nat) (h1 : 1 ≤ n) (hn : n ≤ 8) (hx : x < 18446744073709551616) (hk : 100 ≤ k) : num_Put.f k (n : Int) [(x : Int)] = some (le n x) := by
  have s := nput_l1 n x hn hx [(x : Int)] 1 0 n (k - n - 3 + 1) 0 [] (by omega) (by omega) (by simp; omega)
  have w0 : wrap64 (0 + 1) = 1 := by decide +kernel
  have l1 : (([(x : Int)] : List Int).length : Int) = 1 := rfl
  have r0 : rd [(x : Int)] 0 = x := rfl
  unfold num_Put.f
  rw [if_neg (by omega), decide_eq_false (by omega)]
  obtain ⟨m, rfl⟩ : ∃ m, k = m + n + 4 := ⟨k - n - 4, by omega⟩
  rw [show m + n + 4 = (m + n + 3) + 1 by omega]
  simp only [num_Put.j0, Bool.false_eq_true, if_false]
  rw [show m + n + 3 = (m + n + 2) + 1 by omega, l1]
  simp only [num_Put.l0]
  rw [l1, if_pos (by decide), if_pos (by decide), if_pos (by decide), r0]
  rw [Nat.pow_zero, Nat.div_one, List.nil_append, w0, show m + n + 4 - n - 3 + 1 + n + 1 = m + n + 3 by omega] at s
  have e : m + n + 2 = (m + 1) + n + 1 := by omega
  have s' := nput_l1 n x hn hx [(x : Int)] 1 0 n (m + 1) 0 [] (by omega) (by omega) (by simp; omega)
  rw [Nat.pow_zero, Nat.div_one, List.nil_append, w0] at s'
  rw [e]
  refine Eq.trans s' ?_
  simp only [num_Put.l0]
  rw [if_neg (by decide)]
theorem put2 (k n x : Nat) (h1 : 1 ≤ n) (hn : n ≤ 8) (hx : x < 18446744073709551616) (hk : 100 ≤ k) : num_Put.f k (n : Int) [(x : Int), (x : Int)] = some (le n x ++ le n x) := by
  have w0 : wrap64 (0 + 1) = 1 := by decide +kernel
  have w1 : wrap64 (1 + 1) = 2 := by decide +kernel
  have l2 : (([(x : Int), (x : Int)] : List Int).length : Int) = 2 := rfl
  have r0 : rd [(x : Int), (x : Int)] 0 = x := rfl
  have r1 : rd [(x : Int), (x : Int)] 1 = x := rfl
  unfold num_Put.f
  rw [if_neg (by omega), decide_eq_false (by omega)]
  obtain ⟨m, rfl⟩ : ∃ m, k = m + n + n + 6 := ⟨k - n - n - 6, by omega⟩
  rw [show m + n + n + 6 = (m + n + n + 5) + 1 by omega]
  simp only [num_Put.j0, Bool.false_eq_true, if_false]
  rw [show m + n + n + 5 = (m + n + n + 4) + 1 by omega, l2]
  simp only [num_Put.l0]
  rw [l2, if_pos (by decide), if_pos (by decide), if_pos (by decide), r0]
  have s1 := nput_l1 n x hn hx [(x : Int), (x : Int)] 2 0 n (m + n + 3) 0 [] (by omega) (by omega) (by simp; omega)
  rw [Nat.pow_zero, Nat.div_one, List.nil_append, w0] at s1
  rw [show m + n + n + 4 = (m + n + 3) + n + 1 by omega]
  refine Eq.trans s1 ?_
  rw [show m + n + 3 = (m + n + 2) + 1 by omega]
  simp only [num_Put.l0]
  rw [l2, if_pos (by decide), if_pos (by decide), if_pos (by decide), r1]
  have s2 := nput_l1 n x hn hx [(x : Int), (x : Int)] 2 1 n (m + 1) 0 (le n x) (by omega) (by omega) (by rw [le_length]; omega)
  rw [Nat.pow_zero, Nat.div_one, w1] at s2
  rw [show m + n + 2 = (m + 1) + n + 1 by omega]
  refine Eq.trans s2 ?_
  simp only [num_Put.l0]
  rw [if_neg (by decide)]
theorem nput_none (k : Nat) (n : Int) (l : List Int) (h : n < 1 ∨ n > 8) : num_Put.f (k + 1) n l = some [] := by
  unfold num_Put.f
  by_cases h1 : n < 1
  · rw [if_pos h1]
    simp only [num_Put.j0, if_true]
  · rw [if_neg h1, decide_eq_true (by omega)]
    simp only [num_Put.j0, if_true]
theorem nlay_is (l : List Int) (hlen : l.length ≤ 300) (a s x : Nat) (h1 : 1 ≤ s) (h2 : s ≤ 8) (h : a + s ≤ l.length) (hx : x < 18446744073709551616) :
    num_Lay.f l (a : Int) (s : Int) (x : Int) = some (laid l a s x, true) := by
  have c : slices_Clone_byte_byte.f l = some l := by
    unfold slices_Clone_byte_byte.f
    simp only [Option.bind_some, List.nil_append, List.length_nil, Nat.zero_add]
    rw [if_pos (by omega)]
  unfold num_Lay.f
  rw [bs (there_is l hlen a s), decide_eq_true (by omega), if_pos rfl, bs c, bs (put1 100 s x h1 h2 hx (by omega)), le_length, if_pos rfl, Int.toNat_natCast]
  rfl

/-! a number cut to its bytes -/
theorem cut_bytes (k x s : Nat) (h1 : 1 ≤ s) (h2 : s ≤ 8) (hx : x < 18446744073709551616) : num_Cut.f (k + 1) (x : Int) 0 (wrap64 (8 * (s : Int))) = some ((val (le s x) : Nat) : Int) := by
  have e := cut_some k x 0 (8 * s) hx (by omega) (by omega)
  have hm : min (8 * s) (64 - 0) = 8 * s := by omega
  rw [hm, Nat.pow_zero, Nat.div_one] at e
  rw [w8 s (by omega), val_le, pow256]
  exact e

theorem loop (x : Nat) (hx : x < 18446744073709551616) (l : List Int) (hlen : l.length ≤ 300) (a s : Nat) (W : Int) (h : a + s ≤ l.length) (d : Nat) : ∀ (k i : Nat), 300 ≤ k → i + d = l.length →
    gunnylaw01_NumKeeps.l0 (k + d + 1) l (x : Int) (a : Int) (s : Int) W (laid l a s x) (i : Int) = some true := by
  have hL := laid_length l a s x h
  induction d with
  | zero =>
    intro k i hk hi
    rw [Nat.add_zero]
    simp only [gunnylaw01_NumKeeps.l0]
    rw [if_neg (by omega)]
    exact j4_true k x _ _ hx hk
  | succ d ih =>
    intro k i hk hi
    have hi2 : i < l.length := by omega
    have r := ih k (i + 1) hk (by omega)
    have ws := w64s i (by omega)
    obtain ⟨q, hq⟩ : ∃ q, q = k + d + 1 := ⟨_, rfl⟩
    rw [← hq] at r
    rw [show k + (d + 1) + 1 = q + 1 by omega]
    simp only [gunnylaw01_NumKeeps.l0]
    rw [if_pos (by omega), ws]
    by_cases c1 : i < a
    · rw [if_pos (by omega), if_pos (by omega), if_pos (by omega), laid_rd l a s x i h hi2 (Or.inl c1), if_pos rfl]
      exact r
    · rw [if_neg (by omega)]
      have ew : wrap64 ((i : Int) - (a : Int)) = (i : Int) - (a : Int) := by unfold wrap64; omega
      rw [ew]
      by_cases c2 : a + s ≤ i
      · rw [if_pos (by omega), if_pos (by omega), if_pos (by omega), laid_rd l a s x i h hi2 (Or.inr c2), if_pos rfl]
        exact r
      · rw [if_neg (by omega)]
        exact r

theorem j1_true (k : Nat) (hk : 1000 ≤ k) (l : List Int) (hb : isBytes l) (hlen : l.length ≤ 300) (x : Nat) (hx : x < 18446744073709551616) (a s W : Int) : gunnylaw01_NumKeeps.j1 k l (x : Int) a s W = some true := by
  obtain ⟨q, rfl⟩ : ∃ q, k = q + 1 + 1 := ⟨k - 2, by omega⟩
  simp only [gunnylaw01_NumKeeps.j1]
  by_cases h : 1 ≤ s ∧ s ≤ 8 ∧ 0 ≤ a ∧ a + s ≤ l.length
  · obtain ⟨S, rfl⟩ : ∃ S : Nat, s = (S : Int) := ⟨s.toNat, by omega⟩
    obtain ⟨A, rfl⟩ : ∃ A : Nat, a = (A : Int) := ⟨a.toNat, by omega⟩
    have hAS : A + S ≤ l.length := by omega
    have hL := laid_length l A S x hAS
    have g := nget (q + 1) (laid l A S x) (laid_bytes l hb A S x) (by omega) A S (by omega) (by omega) (by omega) (by omega)
    rw [laid_part l A S x hAS] at g
    rw [bs (nlay_is l hlen A S x (by omega) (by omega) hAS hx), if_pos rfl, bs g, if_pos rfl, bs (cut_bytes q x S (by omega) (by omega) hx), if_pos rfl, hL]
    simp only [gunnylaw01_NumKeeps.j2, bne_self_eq_false, Bool.false_eq_true, if_false]
    have lp := loop x hx l hlen A S W hAS l.length (q - l.length - 1) 0 (by omega) (by omega)
    rw [show q - l.length - 1 + l.length + 1 = q by omega] at lp
    exact lp
  · rw [bs (nlay_not l hlen a s x h), if_neg Bool.false_ne_true]
    exact j4_true _ x a W hx (by omega)

theorem NumKeeps : gunnylaw01_NumKeeps.Pure := by
  intro l0 a1 a2 a3 a4 _ _ hl0 h1 h2 h3 h4
  have hb0 := isBytes.of_wf hl0
  have hX := bounds_u64 h2
  obtain ⟨x, rfl⟩ : ∃ x : Nat, a2 = (x : Int) := ⟨a2.toNat, by omega⟩
  have hx : x < 18446744073709551616 := by omega
  refine ⟨3000, ?_⟩
  unfold gunnylaw01_NumKeeps.f
  by_cases h300 : (l0.length : Int) > 300
  · rw [if_pos h300, bs (lives_some 3000 (by omega))]
  rw [if_neg h300]
  have hlen : l0.length ≤ 300 := by omega
  have jf : ∀ t, gunnylaw01_NumKeeps.j0 3000 l0 (x : Int) a1 a3 a4 t false = some true := by
    intro t
    simp only [gunnylaw01_NumKeeps.j0, Bool.false_eq_true, if_false]
    exact j1_true 2999 (by omega) l0 hb0 hlen x hx a1 a3 a4
  by_cases hr : 1 ≤ a3 ∧ a3 ≤ 8
  · obtain ⟨s, rfl⟩ : ∃ s : Nat, a3 = (s : Int) := ⟨a3.toNat, by omega⟩
    rw [bs (put2 3000 s x (by omega) (by omega) hx (by omega)), if_pos (by omega), decide_eq_true (by omega)]
    have bb : isBytes (le s x ++ le s x) := (isBytes.le s x).app (isBytes.le s x)
    have hl : (le s x ++ le s x).length = s + s := by rw [List.length_append, le_length]
    have g0 := nget 2999 _ bb (by omega) 0 s (by omega) (by omega) (by omega) (by omega)
    have g1 := nget 2999 _ bb (by omega) s s (by omega) (by omega) (by omega) (by omega)
    rw [List.drop_zero, List.take_append_of_le_length (by rw [le_length]; omega), List.take_of_length_le (by rw [le_length]; omega)] at g0
    rw [List.drop_append_of_le_length (by rw [le_length]; omega), List.drop_of_length_le (by rw [le_length]; omega), List.nil_append, List.take_of_length_le (by rw [le_length]; omega)] at g1
    have ew : wrap64 (2 * (s : Int)) = ((s + s : Nat) : Int) := by unfold wrap64; omega
    rw [show ((0 : Nat) : Int) = 0 from rfl] at g0
    simp only [gunnylaw01_NumKeeps.j0, if_true]
    rw [bs g0, bs g1, hl, ew, if_pos rfl, if_pos rfl, if_pos rfl, if_pos rfl, bs (cut_bytes 2998 x s (by omega) (by omega) hx), if_pos rfl]
    exact j1_true 2999 (by omega) l0 hb0 hlen x hx a1 s a4
  · rw [bs (nput_none 2999 a3 _ (by omega))]
    by_cases c : a3 ≥ 1
    · rw [if_pos c, decide_eq_false (by omega)]
      exact jf _
    · rw [if_neg c]
      exact jf _

end Go.Proofs.Ytioabejegjhapaa.PureK
