/- Bytes as numbers: what num's and gunnyref01's Put and Get compute. No program's memory. -/
import Derived.Test.YtoejchlelamhjaaBits
import Derived.Test.YtoejchlelamhjaaRx3
import Derived.Test.YtoejchlelamhjaaRx1
import Derived.OpenShut
namespace Go.Proofs.Ytoejchlelamhjaa.Byt
set_option linter.unusedVariables false
set_option linter.unusedSimpArgs false
open Go.RowKit Go.Proofs.Ytoejchlelamhjaa.R Go.Proofs.Ytoejchlelamhjaa.Bits Go.Proofs.YtoejchlelamhjaaW.PrintWords Go.Proofs.YtoejchlelamhjaaW.PrintMore

/-- A number's bytes, the least first. -/
def le : Nat → Nat → List Int
  | 0, _ => []
  | n + 1, v => ((v % 256 : Nat) : Int) :: le n (v / 256)
theorem le_length (n v : Nat) : (le n v).length = n := by
  induction n generalizing v with
  | zero => rfl
  | succ n ih => simp [le, ih]
theorem le_add (m n v : Nat) : le (m + n) v = le m v ++ le n (v / 256 ^ m) := by
  induction m generalizing v with
  | zero => simp [le]
  | succ m ih =>
    rw [Nat.succ_add]
    simp only [le, List.cons_append]
    rw [ih, Nat.div_div_eq_div_mul, Nat.pow_succ, Nat.mul_comm 256]
theorem le_mod (n v w : Nat) (h : v % 256 ^ n = w % 256 ^ n) : le n v = le n w := by
  induction n generalizing v w with
  | zero => rfl
  | succ n ih =>
    have e : (256 : Nat) ^ (n + 1) = 256 * 256 ^ n := by rw [Nat.pow_succ, Nat.mul_comm]
    rw [e, Nat.mod_mul, Nat.mod_mul] at h
    have h1 : v % 256 < 256 := Nat.mod_lt _ (by decide)
    have h2 : w % 256 < 256 := Nat.mod_lt _ (by decide)
    have h3 : v % 256 = w % 256 ∧ v / 256 % 256 ^ n = w / 256 % 256 ^ n := by omega
    simp only [le]
    rw [h3.1, ih _ _ h3.2]
theorem le_snoc (n v : Nat) : le (n + 1) v = le n v ++ [((v / 256 ^ n % 256 : Nat) : Int)] := by rw [le_add]; rfl

/-- The number of some bytes. -/
def val : List Int → Nat
  | [] => 0
  | b :: r => b.toNat + 256 * val r
def isBytes (l : List Int) : Prop := ∀ x ∈ l, 0 ≤ x ∧ x < 256
theorem isBytes.of_wf {l : List Int} (h : ∀ x ∈ l, (Lit.int .u8 x).wf = true) : isBytes l := by
  intro x hx
  have := h x hx
  have := bounds_u8 this
  omega
theorem isBytes.drop {l : List Int} (h : isBytes l) (n : Nat) : isBytes (l.drop n) := fun x hx => h x (List.mem_of_mem_drop hx)
theorem isBytes.take {l : List Int} (h : isBytes l) (n : Nat) : isBytes (l.take n) := fun x hx => h x (List.mem_of_mem_take hx)
theorem isBytes.app {l r : List Int} (h : isBytes l) (h2 : isBytes r) : isBytes (l ++ r) := fun x hx => (List.mem_append.1 hx).elim (h x) (h2 x)
theorem isBytes.le (n v : Nat) : isBytes (Byt.le n v) := by
  induction n generalizing v with
  | zero => intro x hx; simp [Byt.le] at hx
  | succ n ih =>
    intro x hx
    simp only [Byt.le, List.mem_cons] at hx
    rcases hx with rfl | hx
    · omega
    · exact ih _ x hx
theorem val_append (l r : List Int) : val (l ++ r) = val l + 256 ^ l.length * val r := by
  induction l with
  | nil => simp [val]
  | cons b l ih =>
    simp only [List.cons_append, val, List.length_cons, Nat.pow_succ]
    rw [ih, Nat.mul_add, Nat.mul_comm (256 ^ l.length) 256, Nat.mul_assoc]
    omega
theorem val_lt {l : List Int} (h : isBytes l) : val l < 256 ^ l.length := by
  induction l with
  | nil => simp [val]
  | cons b l ih =>
    have hb := h b (List.mem_cons_self ..)
    have := ih (fun x hx => h x (List.mem_cons_of_mem _ hx))
    simp only [val, List.length_cons, Nat.pow_succ]
    omega
theorem val_le (n v : Nat) : val (le n v) = v % 256 ^ n := by
  induction n generalizing v with
  | zero => simp [le, val, Nat.mod_one]
  | succ n ih =>
    simp only [le, val]
    rw [ih]
    have e : (256 : Nat) ^ (n + 1) = 256 * 256 ^ n := by rw [Nat.pow_succ, Nat.mul_comm]
    rw [e, Nat.mod_mul]
    omega
theorem le_val {l : List Int} (h : isBytes l) : le l.length (val l) = l := by
  induction l with
  | nil => rfl
  | cons b l ih =>
    have hb := h b (List.mem_cons_self ..)
    simp only [List.length_cons, le, val]
    have e1 : (b.toNat + 256 * val l) / 256 = val l := by omega
    rw [e1, ih (fun x hx => h x (List.mem_cons_of_mem _ hx))]
    congr 1
    omega
theorem rd_at (l : List Int) (i : Nat) (h : i < l.length) : rd l (i : Int) = l[i] := by
  unfold rd
  simp [h]
theorem pow256 (n : Nat) : (256 : Nat) ^ n = 2 ^ (8 * n) := by rw [show (256 : Nat) = 2 ^ 8 by decide, ← Nat.pow_mul]
theorem w64s (x : Nat) (h : x < 9223372036854775807) : wrap64 ((x : Int) + 1) = ((x + 1 : Nat) : Int) := by unfold wrap64; omega
theorem w64 (x : Nat) (h : x < 9223372036854775808) : wrap64 (x : Int) = (x : Int) := by unfold wrap64; omega
theorem w64a (x y : Nat) (h : x + y < 9223372036854775808) : wrap64 ((x : Int) + (y : Int)) = ((x + y : Nat) : Int) := by unfold wrap64; omega

theorem w8 (i : Nat) (h : i < 1000000) : wrap64 (8 * (i : Int)) = ((8 * i : Nat) : Int) := by unfold wrap64; omega
theorem w_div (v : Nat) (h : v < 18446744073709551616) : IntKind.u64.wrap (Int.tdiv (v : Int) 256) = ((v / 256 : Nat) : Int) := by rw [Int.tdiv_eq_ediv_of_nonneg (by omega), u64w]; omega
theorem w_mod (v : Nat) : (Int.tmod (v : Int) 256) % 256 = ((v % 256 : Nat) : Int) := by rw [Int.tmod_eq_emod_of_nonneg (by omega)]; omega
theorem u64_nat (n : Nat) (h : n < 18446744073709551616) : IntKind.u64.wrap (n : Int) = (n : Int) := by rw [u64w]; omega
theorem u64_int (x : Int) (h0 : 0 ≤ x) (h : x < 18446744073709551616) : IntKind.u64.wrap x = ((x.toNat : Nat) : Int) := by rw [u64w]; omega
theorem shr_byte (x j : Nat) (h : j ≤ 8) : shr .u64 (x : Int) ((8 * j : Nat) : Int) % 256 = ((x / 256 ^ j % 256 : Nat) : Int) := by
  rw [shr_nat x (8 * j) (by omega), ← pow256]
  omega

/-! gunnyref01.Put -/
theorem rput_l0 (n : Nat) (hn : n ≤ 8) (d : Nat) : ∀ (k v i : Nat) (acc : List Int), v < 18446744073709551616 → i ≤ n → n - i = d → d < k → acc.length + d < 1000 →
    gunnyref01_Put.l0 k (n : Int) (v : Int) acc (i : Int) = some (acc ++ le d v) := by
  induction d with
  | zero =>
    intro k v i acc hv hi hd hk ha
    obtain ⟨k, rfl⟩ : ∃ m, k = m + 1 := ⟨k - 1, by omega⟩
    simp only [gunnyref01_Put.l0]
    rw [if_neg (by omega)]
    simp [le]
  | succ d ih =>
    intro k v i acc hv hi hd hk ha
    obtain ⟨k, rfl⟩ : ∃ m, k = m + 1 := ⟨k - 1, by omega⟩
    simp only [gunnyref01_Put.l0]
    rw [if_pos (by omega), if_pos (by omega), w_div v hv, w_mod, w64s i (by omega), ih k (v / 256) (i + 1) (acc ++ [((v % 256 : Nat) : Int)]) (by omega) (by omega) (by omega) (by omega) (by simp; omega)]
    simp [le]
theorem rput (k n v : Nat) (hn : n ≤ 8) (hv : v < 18446744073709551616) (hk : 8 < k) : gunnyref01_Put.f k (n : Int) (v : Int) = some (le n v) := by
  have := rput_l0 n hn n k v 0 [] hv (by omega) (by omega) (by omega) (by simp; omega)
  rw [List.nil_append] at this
  exact this

/-! num.Put -/
theorem nput_l1 (n x : Nat) (hn : n ≤ 8) (hx : x < 18446744073709551616) (l : List Int) (m i0 : Int) (d : Nat) : ∀ (k j : Nat) (acc : List Int), j ≤ n → n - j = d → acc.length + d < 1000 →
    num_Put.l1 (k + d + 1) (n : Int) acc (x : Int) l m i0 (n : Int) (j : Int) = num_Put.l0 k (n : Int) (acc ++ le d (x / 256 ^ j)) l m (wrap64 (i0 + 1)) := by
  induction d with
  | zero =>
    intro k j acc hj hd ha
    simp only [num_Put.l1]
    rw [if_neg (by omega)]
    simp [le]
  | succ d ih =>
    intro k j acc hj hd ha
    obtain ⟨q, hq⟩ : ∃ q, q = k + d + 1 := ⟨_, rfl⟩
    rw [show k + (d + 1) + 1 = q + 1 by omega]
    simp only [num_Put.l1]
    rw [hq]
    rw [if_pos (by omega), w8 j (by omega), if_pos (by omega), if_pos (by omega), shr_byte x j (by omega), w64s j (by omega), ih k (j + 1) (acc ++ [((x / 256 ^ j % 256 : Nat) : Int)]) (by omega) (by omega) (by simp; omega)]
    simp only [le, List.append_assoc, List.singleton_append]
    rw [Nat.div_div_eq_div_mul, ← Nat.pow_succ]
theorem nput_l0 (n : Nat) (hn : n ≤ 8) (l : List Int) (hl : ∀ x ∈ l, 0 ≤ x ∧ x < 18446744073709551616) (hlen : l.length ≤ 100) : ∀ (d k i : Nat) (acc : List Int), i + d = l.length → (n + 2) * d + 1 < k → acc.length + n * d < 1000 →
    num_Put.l0 k (n : Int) acc l (l.length : Int) (i : Int) = some (acc ++ ((l.drop i).map (fun x => le n x.toNat)).flatten) := by
  intro d
  induction d with
  | zero =>
    intro k i acc h1 h2 h3
    obtain ⟨k, rfl⟩ : ∃ m, k = m + 1 := ⟨k - 1, by omega⟩
    simp only [num_Put.l0]
    rw [if_neg (by omega), List.drop_eq_nil_of_le (by omega)]
    simp
  | succ d ih =>
    intro k i acc h1 h2 h3
    have e : (n + 2) * (d + 1) = (n + 2) * d + n + 2 := by rw [Nat.mul_succ]; omega
    have e2 : n * (d + 1) = n * d + n := Nat.mul_succ ..
    obtain ⟨k, rfl⟩ : ∃ m, k = (m + n + 1) + 1 := ⟨k - n - 2, by omega⟩
    have hi : i < l.length := by omega
    have hx := hl l[i] (List.getElem_mem hi)
    obtain ⟨x, ex⟩ : ∃ x : Nat, l[i] = (x : Int) := ⟨l[i].toNat, by omega⟩
    have s1 := nput_l1 n x hn (by omega) l (l.length : Int) (i : Int) n k 0 acc (by omega) (by omega) (by omega)
    rw [Nat.pow_zero, Nat.div_one, w64s i (by omega)] at s1
    simp only [num_Put.l0]
    rw [if_pos (by omega), if_pos (by omega), if_pos (by omega), rd_at l i hi, ex]
    refine Eq.trans s1 ?_
    rw [ih k (i + 1) _ (by omega) (by omega) (by rw [List.length_append, le_length]; omega), List.drop_eq_getElem_cons hi, ex]
    simp
theorem nput (k n : Nat) (h1 : 1 ≤ n) (hn : n ≤ 8) (l : List Int) (hl : ∀ x ∈ l, 0 ≤ x ∧ x < 18446744073709551616) (hlen : l.length ≤ 100) (hk : (n + 2) * l.length + 2 < k) :
    num_Put.f k (n : Int) l = some ((l.map (fun x => le n x.toNat)).flatten) := by
  obtain ⟨k, rfl⟩ : ∃ m, k = m + 1 := ⟨k - 1, by omega⟩
  unfold num_Put.f
  rw [if_neg (by omega), decide_eq_false (by omega)]
  simp only [num_Put.j0]
  rw [if_neg (by decide)]
  have hb : n * l.length ≤ 8 * 100 := Nat.mul_le_mul hn hlen
  have := nput_l0 n hn l hl hlen l.length k 0 [] (by omega) (by omega) (by simp; omega)
  rw [List.drop_zero, List.nil_append] at this
  exact this

theorem rget_l0 (l : List Int) (hl : isBytes l) (hlen : l.length < 100000) (at_ n : Nat) (hn : n ≤ 8) (h : at_ + n ≤ l.length) (d : Nat) : ∀ (k : Nat) (acc : Nat), d ≤ n → acc < 256 ^ (n - d) → d < k →
    gunnyref01_Get.l0 k l (at_ : Int) (acc : Int) ((d : Int) - 1) = some ((val ((l.drop at_).take d) + 256 ^ d * acc : Nat) : Int) := by
  induction d with
  | zero =>
    intro k acc hd ha hk
    obtain ⟨k, rfl⟩ : ∃ m, k = m + 1 := ⟨k - 1, by omega⟩
    simp only [gunnyref01_Get.l0]
    rw [if_neg (by omega)]
    simp [val]
  | succ d ih =>
    intro k acc hd ha hk
    obtain ⟨k, rfl⟩ : ∃ m, k = m + 1 := ⟨k - 1, by omega⟩
    have hb := hl l[at_ + d] (List.getElem_mem (by omega))
    have e0 : ((d + 1 : Nat) : Int) - 1 = (d : Int) := by omega
    have e1 := w64a at_ d (by omega)
    have e2 : wrap64 ((d : Int) - 1) = (d : Int) - 1 := by unfold wrap64; omega
    have e3 := rd_at l (at_ + d) (by omega)
    have hp : (256 : Nat) ^ (n - d) ≤ 256 ^ 8 := Nat.pow_le_pow_right (by decide) (by omega)
    have hq : (256 : Nat) ^ (n - d) = 256 * 256 ^ (n - (d + 1)) := by rw [show n - d = n - (d + 1) + 1 by omega, Nat.pow_succ, Nat.mul_comm]
    have h8 : (256 : Nat) ^ 8 = 18446744073709551616 := by decide +kernel
    obtain ⟨b, hb'⟩ : ∃ b : Nat, l[at_ + d] = (b : Int) ∧ b < 256 := ⟨l[at_ + d].toNat, by omega, by omega⟩
    have e4 : IntKind.u64.wrap ((IntKind.u64.wrap (256 * (acc : Int))) + (IntKind.u64.wrap (b : Int))) = ((256 * acc + b : Nat) : Int) := by
      rw [u64w, u64w, u64w]
      omega
    simp only [gunnyref01_Get.l0]
    rw [e0, if_pos (by omega), e1, if_pos (by omega), if_pos (by omega), e2, e3, hb'.1, e4, ih k (256 * acc + b) (by omega) (by omega) (by omega)]
    have hd' : d < (l.drop at_).length := by simp; omega
    rw [List.take_succ_eq_append_getElem hd', val_append, List.length_take, Nat.min_eq_left (by omega)]
    have e5 : (l.drop at_)[d] = (b : Int) := by rw [List.getElem_drop]; exact hb'.1
    rw [e5]
    simp only [val, Int.toNat_natCast, Nat.mul_zero, Nat.add_zero]
    rw [Nat.pow_succ, Nat.mul_add, Nat.mul_assoc]
    refine congrArg some (congrArg Nat.cast ?_)
    omega
theorem rget (k : Nat) (l : List Int) (hl : isBytes l) (hlen : l.length < 100000) (at_ n : Nat) (h1 : 1 ≤ n) (hn : n ≤ 8) (h : at_ + n ≤ l.length) (hk : 8 < k) :
    gunnyref01_Get.f k l (at_ : Int) (n : Int) = some ((val ((l.drop at_).take n) : Nat) : Int) := by
  have e : wrap64 ((n : Int) - 1) = (n : Int) - 1 := by unfold wrap64; omega
  have := rget_l0 l hl hlen at_ n hn h n k 0 (by omega) (by simp) (by omega)
  unfold gunnyref01_Get.f
  rw [e]
  simpa using this

/-! num.Get -/
theorem or_add (a b i : Nat) (ha : a < 256 ^ i) (hb : b < 256) (hi : i < 8) : Go.bits .or .u64 (a : Int) (shl .u64 (b : Int) ((8 * i : Nat) : Int)) = ((a + 256 ^ i * b : Nat) : Int) := by
  have hp : (256 : Nat) ^ (i + 1) ≤ 256 ^ 8 := Nat.pow_le_pow_right (by decide) (by omega)
  have h8 : (256 : Nat) ^ 8 = 18446744073709551616 := by decide +kernel
  have hq : (256 : Nat) ^ (i + 1) = 256 * 256 ^ i := by rw [Nat.pow_succ, Nat.mul_comm]
  have hbp : b * 256 ^ i ≤ 255 * 256 ^ i := Nat.mul_le_mul_right _ (by omega)
  rw [shl_nat b (8 * i) (by omega), ← pow256, Nat.mod_eq_of_lt (by omega), u64_or_nat a _ (by omega) (by omega)]
  refine congrArg Nat.cast ?_
  rw [Nat.or_comm, Nat.mul_comm b, pow256]
  rw [pow256] at ha
  rw [← Nat.two_pow_add_eq_or_of_lt ha]
  omega
theorem nget_l0 (l : List Int) (hl : isBytes l) (hlen : l.length < 100000) (at_ n : Nat) (hn : n ≤ 8) (h : at_ + n ≤ l.length) (d : Nat) : ∀ (k i : Nat), i ≤ n → n - i = d → d < k →
    num_Get.l0 k l (at_ : Int) ((val ((l.drop at_).take i) : Nat) : Int) (n : Int) (i : Int) = some (((val ((l.drop at_).take n) : Nat) : Int), true) := by
  induction d with
  | zero =>
    intro k i hi hd hk
    obtain ⟨k, rfl⟩ : ∃ m, k = m + 1 := ⟨k - 1, by omega⟩
    have : i = n := by omega
    subst this
    simp only [num_Get.l0]
    rw [if_neg (by omega)]
  | succ d ih =>
    intro k i hi hd hk
    obtain ⟨k, rfl⟩ : ∃ m, k = m + 1 := ⟨k - 1, by omega⟩
    have hb := hl l[at_ + i] (List.getElem_mem (by omega))
    obtain ⟨b, hb'⟩ : ∃ b : Nat, l[at_ + i] = (b : Int) ∧ b < 256 := ⟨l[at_ + i].toNat, by omega, by omega⟩
    have e3 := rd_at l (at_ + i) (by omega)
    have hv : val ((l.drop at_).take i) < 256 ^ i := by
      have := val_lt ((hl.drop at_).take i)
      rw [List.length_take, List.length_drop, Nat.min_eq_left (by omega)] at this
      exact this
    simp only [num_Get.l0]
    rw [if_pos (by omega), w64a at_ i (by omega), if_pos (by omega), if_pos (by omega), w8 i (by omega), if_pos (by omega), e3, hb'.1, u64_nat b (by omega), or_add _ b i hv hb'.2 (by omega), w64s i (by omega)]
    have hd' : i < (l.drop at_).length := by simp; omega
    have e6 : (l.drop at_)[i] = (b : Int) := by rw [List.getElem_drop]; exact hb'.1
    have e7 : val ((l.drop at_).take (i + 1)) = val ((l.drop at_).take i) + 256 ^ i * b := by
      rw [List.take_succ_eq_append_getElem hd', val_append, List.length_take, Nat.min_eq_left (by omega), e6]
      simp only [val, Int.toNat_natCast, Nat.mul_zero, Nat.add_zero]
    rw [← e7]
    exact ih k (i + 1) (by omega) (by omega) (by omega)
theorem nget (k : Nat) (l : List Int) (hl : isBytes l) (hlen : l.length < 100000) (at_ n : Nat) (h1 : 1 ≤ n) (hn : n ≤ 8) (h : at_ + n ≤ l.length) (hk : 8 < k) :
    num_Get.f k l (at_ : Int) (n : Int) = some (((val ((l.drop at_).take n) : Nat) : Int), true) := by
  have e : wrap64 ((l.length : Int) - (n : Int)) = ((l.length - n : Nat) : Int) := by unfold wrap64; omega
  have t : num_there.f l (at_ : Int) (n : Int) = some true := by
    unfold num_there.f
    rw [if_pos (by omega), if_pos (by omega), if_pos (by omega), e, decide_eq_true (by omega)]
  unfold num_Get.f
  rw [bs t, if_pos rfl]
  exact nget_l0 l hl hlen at_ n hn h n k 0 (by omega) (by omega) (by omega)

/-! num.Put -/
end Go.Proofs.Ytoejchlelamhjaa.Byt
