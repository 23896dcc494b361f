/- NumBytes, pure: what Put, Get and Lay tell is what the document tells, byte by byte. -/
import Derived.Test.YtioabejegjhapaaBytes
import Derived.Test.YtioabejegjhapaaRx3
namespace Go.Proofs.Ytioabejegjhapaa.Pure
set_option linter.unusedVariables false
set_option linter.unusedSimpArgs false
open Go.RowKit Go.Proofs.Ytioabejegjhapaa.R Go.Proofs.Ytioabejegjhapaa.Bits Go.Proofs.Ytioabejegjhapaa.Num Go.Proofs.Ytioabejegjhapaa.Rec Go.Proofs.YtioabejegjhapaaW.PrintWords Go.Proofs.YtioabejegjhapaaW.PrintMore

theorem lives100 : gunnylaw01_lives.f 100 = some true := by decide +kernel
theorem lives_up (d : Nat) : gunnylaw01_lives.f (100 + d) = some true := by
  induction d with
  | zero => exact lives100
  | succ d ih => exact gunnylaw01_lives.mono _ _ ih
theorem lives_some (k : Nat) (h : 100 ≤ k) : gunnylaw01_lives.f k = some true := by
  have := lives_up (k - 100)
  rwa [show 100 + (k - 100) = k by omega] at this

/-- The bytes of some numbers. -/
def les (n : Nat) (l : List Int) : List Int := l.flatMap fun x => le n x.toNat
theorem les_length (n : Nat) (l : List Int) : (les n l).length = n * l.length := by
  induction l with
  | nil => simp [les]
  | cons x l ih =>
    have : les n (x :: l) = le n x.toNat ++ les n l := by simp [les]
    rw [this, List.length_append, le_length, ih, List.length_cons, Nat.mul_succ]
    omega
theorem les_snoc (n : Nat) (l : List Int) (i : Nat) (h : i < l.length) : les n (l.take (i + 1)) = les n (l.take i) ++ le n l[i].toNat := by
  unfold les
  rw [List.take_succ_eq_append_getElem h, List.flatMap_append]
  simp only [List.flatMap_cons, List.flatMap_nil, List.append_nil]
def isWords (l : List Int) : Prop := ∀ x ∈ l, 0 ≤ x ∧ x < 18446744073709551616
theorem isWords.of_wf {l : List Int} (h : ∀ x ∈ l, (Lit.int .u64 x).wf = true) : isWords l := by
  intro x hx
  have := bounds_u64 (h x hx)
  omega

/-! num.Put of whatever numbers -/
theorem nput_l0 (n : Nat) (hn : n ≤ 8) (l : List Int) (hl : isWords l) (hlen : l.length ≤ 100) (d : Nat) : ∀ (k i : Nat), i + d = l.length →
    num_Put.l0 (k + (n + 2) * d + 1) (n : Int) (les n (l.take i)) l (l.length : Int) (i : Int) = some (les n l) := by
  induction d with
  | zero =>
    intro k i hi
    rw [Nat.mul_zero, Nat.add_zero]
    simp only [num_Put.l0]
    rw [if_neg (by omega), List.take_of_length_le (by omega)]
  | succ d ih =>
    intro k i hi
    have hil : i < l.length := by omega
    have hw := hl l[i] (List.getElem_mem hil)
    obtain ⟨x, hx⟩ : ∃ x : Nat, l[i] = (x : Int) := ⟨l[i].toNat, by omega⟩
    obtain ⟨q, hq⟩ : ∃ q, q = k + (n + 2) * d + 1 := ⟨_, rfl⟩
    have e : k + (n + 2) * (d + 1) + 1 = (q + n + 1) + 1 := by rw [hq, Nat.mul_succ]; omega
    rw [e]
    simp only [num_Put.l0]
    have hln : (les n (l.take i)).length = n * i := by rw [les_length, List.length_take, Nat.min_eq_left (by omega)]
    have hni : n * i ≤ 8 * i := Nat.mul_le_mul_right _ hn
    rw [if_pos (by omega), if_pos (by omega), if_pos (by omega), rd_at l i hil, hx]
    have s := nput_l1 n x hn (by omega) l (l.length : Int) (i : Int) n q 0 (les n (l.take i)) (by omega) (by omega) (by rw [hln]; omega)
    rw [Nat.pow_zero, Nat.div_one, w64s i (by omega)] at s
    refine Eq.trans s ?_
    have e2 : les n (l.take i) ++ le n x = les n (l.take (i + 1)) := by rw [les_snoc n l i hil, hx]; rfl
    rw [e2, hq]
    exact ih k (i + 1) (by omega)
theorem nput_some (k n : Nat) (h1 : 1 ≤ n) (hn : n ≤ 8) (l : List Int) (hl : isWords l) (hlen : l.length ≤ 100) (hk : 1100 ≤ k) : num_Put.f k (n : Int) l = some (les n l) := by
  have hb : (n + 2) * l.length ≤ 10 * 100 := Nat.mul_le_mul (by omega) hlen
  obtain ⟨m, hm⟩ : ∃ m, k = (m + (n + 2) * l.length + 1) + 1 := ⟨k - (n + 2) * l.length - 2, by omega⟩
  unfold num_Put.f
  rw [if_neg (by omega), decide_eq_false (by omega), hm]
  simp only [num_Put.j0, Bool.false_eq_true, if_false]
  exact nput_l0 n hn l hl hlen l.length m 0 (by omega)
theorem nput_none (k : Nat) (n : Int) (l : List Int) (h : n < 1 ∨ n > 8) : num_Put.f (k + 1) n l = some [] := by
  unfold num_Put.f
  by_cases h1 : n < 1
  · rw [if_pos h1]
    simp only [num_Put.j0, if_true]
  · rw [if_neg h1, decide_eq_true (by omega)]
    simp only [num_Put.j0, if_true]

/-! num.Lay, num.Get and There -/
theorem there_is (l : List Int) (hlen : l.length ≤ 300) (a s : Int) : num_there.f l a s = some (decide (1 ≤ s ∧ s ≤ 8 ∧ 0 ≤ a ∧ a + s ≤ l.length)) := by
  unfold num_there.f
  by_cases h1 : s ≥ 1
  · by_cases h2 : s ≤ 8
    · by_cases h3 : a ≥ 0
      · rw [if_pos h1, if_pos h2, if_pos h3]
        have e : wrap64 ((l.length : Int) - s) = (l.length : Int) - s := by unfold wrap64; omega
        rw [e]
        refine congrArg some (decide_eq_decide.2 ?_)
        omega
      · rw [if_pos h1, if_pos h2, if_neg h3, decide_eq_false (by omega)]
    · rw [if_pos h1, if_neg h2, decide_eq_false (by omega)]
  · rw [if_neg h1, decide_eq_false (by omega)]
theorem There_is (l : List Int) (hlen : l.length ≤ 300) (a s : Int) (ha : a < 9223372036854775808) : gunnyref01_There.f l a s = some (decide (1 ≤ s ∧ s ≤ 8 ∧ 0 ≤ a ∧ a + s ≤ l.length)) := by
  unfold gunnyref01_There.f
  by_cases h1 : s ≥ 1
  · by_cases h2 : s ≤ 8
    · by_cases h3 : a ≥ 0
      · by_cases h4 : a < (l.length : Int)
        · rw [if_pos h1, if_pos h2, if_pos h3, if_pos h4]
          have e : wrap64 ((l.length : Int) - a) = (l.length : Int) - a := by unfold wrap64; omega
          rw [e]
          refine congrArg some (decide_eq_decide.2 ?_)
          omega
        · rw [if_pos h1, if_pos h2, if_pos h3, if_neg h4, decide_eq_false (by omega)]
      · rw [if_pos h1, if_pos h2, if_neg h3, decide_eq_false (by omega)]
    · rw [if_pos h1, if_neg h2, decide_eq_false (by omega)]
  · rw [if_neg h1, decide_eq_false (by omega)]
theorem nget_not (k : Nat) (l : List Int) (hlen : l.length ≤ 300) (a s : Int) (h : ¬ (1 ≤ s ∧ s ≤ 8 ∧ 0 ≤ a ∧ a + s ≤ l.length)) : num_Get.f k l a s = some (0, false) := by
  unfold num_Get.f
  rw [bs (there_is l hlen a s), decide_eq_false h, if_neg Bool.false_ne_true]
theorem nlay_not (l : List Int) (hlen : l.length ≤ 300) (a s n : Int) (h : ¬ (1 ≤ s ∧ s ≤ 8 ∧ 0 ≤ a ∧ a + s ≤ l.length)) : num_Lay.f l a s n = some ([], false) := by
  unfold num_Lay.f
  rw [bs (there_is l hlen a s), decide_eq_false h, if_neg Bool.false_ne_true]
theorem put100 (n : Nat) (x : Nat) (h1 : 1 ≤ n) (hn : n ≤ 8) (hx : x < 18446744073709551616) : num_Put.f 100 (n : Int) [(x : Int)] = some (le n x) := by
  have s := nput_l0 n hn [(x : Int)] (by intro y hy; simp at hy; omega) (by simp) 1 (100 - (n + 2) - 2) 0 (by simp)
  unfold num_Put.f
  rw [if_neg (by omega), decide_eq_false (by omega)]
  simp only [num_Put.j0, Bool.false_eq_true, if_false]
  have e : 100 - (n + 2) - 2 + (n + 2) * 1 + 1 = 99 := by omega
  rw [e] at s
  refine Eq.trans s ?_
  simp [les]
theorem nlay_is (l : List Int) (hlen : l.length ≤ 300) (a s x : Nat) (h1 : 1 ≤ s) (h2 : s ≤ 8) (h : a + s ≤ l.length) (hx : x < 18446744073709551616) :
    num_Lay.f l (a : Int) (s : Int) (x : Int) = some (l.take a ++ le s x ++ l.drop (a + s), true) := by
  have c : slices_Clone_byte_byte.f l = some l := by
    unfold slices_Clone_byte_byte.f
    simp only [Option.bind_some, List.nil_append, List.length_nil, Nat.zero_add]
    rw [if_pos (by omega)]
  unfold num_Lay.f
  rw [bs (there_is l hlen a s), decide_eq_true (by omega), if_pos rfl, bs c, bs (put100 s x h1 h2 hx), le_length, if_pos rfl, Int.toNat_natCast]

/-! strings of bytes -/
theorem str_app (a b : List Int) : strOfNums (a ++ b) = strOfNums a ++ strOfNums b := by
  apply ByteArray.ext
  simp [strOfNums, ByteArray.data_append]
theorem str_extract (l : List Int) (i j : Nat) : (strOfNums l).extract i j = strOfNums ((l.take j).drop i) := by
  apply ByteArray.ext
  rw [ByteArray.data_extract]
  apply Array.toList_inj.1
  simp [strOfNums, List.drop_take]

theorem loop (l0 l2 : List Int) (hl2 : isWords l2) (hlen2 : l2.length ≤ 50) (a : Int) (s : Nat) (h1 : 1 ≤ s) (h8 : s ≤ 8) (d : Nat) : ∀ (k i : Nat), 10 ≤ k → i + d = l2.length →
    gunnylaw01_NumBytes.l0 (k + d + 1) l0 l2 a (s : Int) (les s (l2.take i)) (i : Int) = gunnylaw01_NumBytes.j2 k l0 l2 a (s : Int) (les s l2) := by
  induction d with
  | zero =>
    intro k i hk hi
    rw [Nat.add_zero]
    simp only [gunnylaw01_NumBytes.l0]
    rw [if_neg (by omega), List.take_of_length_le (by omega)]
  | succ d ih =>
    intro k i hk hi
    have hil : i < l2.length := by omega
    have hw := hl2 l2[i] (List.getElem_mem hil)
    obtain ⟨x, hx⟩ : ∃ x : Nat, l2[i] = (x : Int) := ⟨l2[i].toNat, by omega⟩
    obtain ⟨q, hq⟩ : ∃ q, q = k + d + 1 := ⟨_, rfl⟩
    rw [show k + (d + 1) + 1 = q + 1 by omega]
    simp only [gunnylaw01_NumBytes.l0]
    have hln : (les s (l2.take i)).length = s * i := by rw [les_length, List.length_take, Nat.min_eq_left (by omega)]
    have hni : s * i ≤ 8 * i := Nat.mul_le_mul_right _ h8
    rw [if_pos (by omega), if_pos (by omega), if_pos (by omega), if_pos (by omega), rd_at l2 i hil, hx, bs (rput q s x h8 (by omega) (by omega)), if_pos (by rw [hln, le_length]; omega), w64s i (by omega)]
    have e2 : les s (l2.take i) ++ le s x = les s (l2.take (i + 1)) := by rw [les_snoc s l2 i hil, hx]; rfl
    rw [e2, hq]
    exact ih k (i + 1) hk (by omega)

theorem j3_true (k : Nat) (hk : 1100 ≤ k) (l0 : List Int) (hl0 : isBytes l0) (hlen : l0.length ≤ 300) (a s : Int) (ha : -9223372036854775808 ≤ a ∧ a < 9223372036854775808) (n : Nat) (hn : n < 18446744073709551616) :
    gunnylaw01_NumBytes.j3 (k + 1) l0 a s (strOfNums l0) (n : Int) = some true := by
  simp only [gunnylaw01_NumBytes.j3]
  by_cases h : 1 ≤ s ∧ s ≤ 8 ∧ 0 ≤ a ∧ a + s ≤ l0.length
  · have hT := There_is l0 hlen a s ha.2
    rw [decide_eq_true h] at hT
    obtain ⟨S, rfl⟩ : ∃ S : Nat, s = (S : Int) := ⟨s.toNat, by omega⟩
    obtain ⟨A, rfl⟩ : ∃ A : Nat, a = (A : Int) := ⟨a.toNat, by omega⟩
    have g1 := nget k l0 hl0 (by omega) A S (by omega) (by omega) (by omega) (by omega)
    have g2 := rget k l0 hl0 (by omega) A S (by omega) (by omega) (by omega) (by omega)
    have ly := nlay_is l0 hlen A S n (by omega) (by omega) (by omega) hn
    have rp := rput k S n (by omega) hn (by omega)
    have ew := w64a A S (by omega)
    have z := strOfNums_size l0
    have e1 : (strOfNums l0).extract 0 ((A : Int)).toNat = strOfNums (l0.take A) := by rw [str_extract, Int.toNat_natCast]; simp
    have e2 : (strOfNums l0).extract (((A + S : Nat) : Int)).toNat (strOfNums l0).size = strOfNums (l0.drop (A + S)) := by rw [str_extract, Int.toNat_natCast, z]; simp
    have z1 : (strOfNums (l0.take A)).size + (strOfNums (le S n)).size ≤ 9223372036854775807 := by rw [strOfNums_size, strOfNums_size, le_length, List.length_take]; omega
    have z2 : (strOfNums (l0.take A) ++ strOfNums (le S n)).size + (strOfNums (l0.drop (A + S))).size ≤ 9223372036854775807 := by rw [← str_app, strOfNums_size, strOfNums_size, List.length_append, le_length, List.length_take, List.length_drop]; omega
    rw [bs g1, bs ly, bs hT, if_pos rfl, if_pos (by omega), if_pos (by rw [z]; omega), bs rp, e1, if_pos z1, ew, if_pos (by omega), if_pos (by rw [z]; omega), e2, if_pos z2, if_pos rfl, if_pos rfl, bs g2, if_pos rfl, if_pos (by rw [str_app, str_app]), if_pos trivial, bs (lives_some k (by omega))]
  · have hT := There_is l0 hlen a s ha.2
    rw [decide_eq_false h] at hT
    rw [bs (nget_not k l0 hlen a s h), bs (nlay_not l0 hlen a s n h), bs hT, if_neg Bool.false_ne_true, if_neg Bool.false_ne_true, if_neg Bool.false_ne_true, if_pos rfl, if_pos (show (((([] : List Int), false) : List Int × Bool).1.length : Int) = 0 from rfl), bs (lives_some k (by omega))]

theorem j2_true (k : Nat) (hk : 1102 ≤ k) (l0 l2 : List Int) (hl0 : isBytes l0) (hlen : l0.length ≤ 300) (hl2 : isWords l2) (a s : Int) (ha : -9223372036854775808 ≤ a ∧ a < 9223372036854775808) (p : List Int) (hp : num_Put.f k s l2 = some p) :
    gunnylaw01_NumBytes.j2 (k + 1) l0 l2 a s p = some true := by
  simp only [gunnylaw01_NumBytes.j2]
  have hb : gunnyref01_Bytes.f p p = some true := by unfold gunnyref01_Bytes.f; rw [beq_self_eq_true]
  rw [bs hp, bs hb, if_pos rfl]
  obtain ⟨q, rfl⟩ : ∃ q, k = q + 1 := ⟨k - 1, by omega⟩
  by_cases h0 : (l2.length : Int) > 0
  · have hw := hl2 l2[0] (List.getElem_mem (by omega))
    have er := rd_at l2 0 (by omega)
    rw [if_pos h0, if_pos (by omega)]
    obtain ⟨x, hx⟩ : ∃ x : Nat, l2[0] = (x : Int) := ⟨l2[0].toNat, by omega⟩
    have er2 : rd l2 0 = (x : Int) := by rw [← hx]; exact er
    rw [er2]
    exact j3_true q (by omega) l0 hl0 hlen a s ha x (by omega)
  · rw [if_neg h0, u64_nat l0.length (by omega)]
    exact j3_true q (by omega) l0 hl0 hlen a s ha l0.length (by omega)

theorem out_l0 (k : Nat) (l0 l2 : List Int) (a1 a3 : Int) (hr : ¬ (1 ≤ a3 ∧ a3 ≤ 8)) : gunnylaw01_NumBytes.l0 (k + 1) l0 l2 a1 a3 [] 0 = gunnylaw01_NumBytes.j2 k l0 l2 a1 a3 [] := by
  simp only [gunnylaw01_NumBytes.l0]
  by_cases h1 : (0 : Int) < (l2.length : Int)
  · rw [if_pos h1]
    by_cases h2 : a3 ≥ 1
    · rw [if_pos h2, if_neg (by omega)]
    · rw [if_neg h2]
  · rw [if_neg h1]

theorem NumBytes : gunnylaw01_NumBytes.Pure := by
  intro l0 a1 l2 a3 _ _ hl0 ha _ _ hl2 hs
  have hb0 := isBytes.of_wf hl0
  have hw2 := isWords.of_wf hl2
  have hA := bounds_i64 ha
  have hS := bounds_i64 hs
  refine ⟨2000, ?_⟩
  unfold gunnylaw01_NumBytes.f
  have j0t : gunnylaw01_NumBytes.j0 2000 l0 l2 a1 a3 true = some true := by
    simp only [gunnylaw01_NumBytes.j0, if_true]
    rw [bs (lives_some 1999 (by omega))]
  by_cases h300 : (l0.length : Int) > 300
  · rw [if_pos h300]; exact j0t
  rw [if_neg h300]
  by_cases h50 : (l2.length : Int) > 50
  · rw [decide_eq_true h50]; exact j0t
  rw [decide_eq_false h50]
  simp only [gunnylaw01_NumBytes.j0, Bool.false_eq_true, if_false]
  by_cases hr : 1 ≤ a3 ∧ a3 ≤ 8
  · obtain ⟨s, rfl⟩ : ∃ s : Nat, a3 = (s : Int) := ⟨a3.toNat, by omega⟩
    have lp := loop l0 l2 hw2 (by omega) a1 s (by omega) (by omega) l2.length (1998 - l2.length) 0 (by omega) (by omega)
    rw [show 1998 - l2.length + l2.length + 1 = 1999 by omega] at lp
    refine Eq.trans lp ?_
    obtain ⟨q, hq⟩ : ∃ q, 1998 - l2.length = q + 1 := ⟨1998 - l2.length - 1, by omega⟩
    rw [hq]
    exact j2_true q (by omega) l0 l2 hb0 (by omega) hw2 a1 _ (by omega) _ (nput_some q s (by omega) (by omega) l2 hw2 (by omega) (by omega))
  · have lp := out_l0 1998 l0 l2 a1 a3 hr
    refine Eq.trans lp ?_
    exact j2_true 1997 (by omega) l0 l2 hb0 (by omega) hw2 a1 a3 (by omega) [] (nput_none 1996 a3 l2 (by omega))

end Go.Proofs.Ytioabejegjhapaa.Pure
