/- What gunnyref31's Read and Kind compute: a word's parts, and its kind, are pte's. No program's memory. -/
import Derived.Test.YtcadfblcpfhjfaaPteRef
import Derived.Test.YtcadfblcpfhjfaaRefBit
import Derived.Test.YtcadfblcpfhjfaaRx6
namespace Go.Proofs.Ytcadfblcpfhjfaa.Pte
set_option linter.unusedVariables false
set_option linter.unusedSimpArgs false
open Go.RowKit Go.Proofs.Ytcadfblcpfhjfaa.R Go.Proofs.Ytcadfblcpfhjfaa.Bits Go.Proofs.Ytcadfblcpfhjfaa.Num Go.Proofs.Ytcadfblcpfhjfaa.RefBit Go.Proofs.YtcadfblcpfhjfaaW.PrintWords Go.Proofs.YtcadfblcpfhjfaaW.PrintMore

def restB (w : Nat) : Bool := w / 32 % 2 == 1 || w / 256 % 2 == 1 || w / 512 % 2 == 1 || w / 18014398509481984 != 0

theorem rread (k w : Nat) (hw : w < 18446744073709551616) (hk : 65 < k) :
    gunnyref31_Read.f k (w : Int) = some (w % 2 == 1, w / 16 % 2 == 1, w / 64 % 2 == 1, w / 128 % 2 == 1, ((pm w : Nat) : Int), ((nm w : Nat) : Int), restB w) := by
  have b0 : gunnyref01_Bit.f k (w : Int) 0 = some (w % 2 == 1) := by
    have := rbit k w 0 hw (by omega) hk
    rw [Nat.pow_zero, Nat.div_one] at this
    exact this
  have b4 : gunnyref01_Bit.f k (w : Int) 4 = some (w / 16 % 2 == 1) := rbit k w 4 hw (by omega) hk
  have b6 : gunnyref01_Bit.f k (w : Int) 6 = some (w / 64 % 2 == 1) := rbit k w 6 hw (by omega) hk
  have b7 : gunnyref01_Bit.f k (w : Int) 7 = some (w / 128 % 2 == 1) := rbit k w 7 hw (by omega) hk
  have b5 : gunnyref01_Bit.f k (w : Int) 5 = some (w / 32 % 2 == 1) := rbit k w 5 hw (by omega) hk
  have b8 : gunnyref01_Bit.f k (w : Int) 8 = some (w / 256 % 2 == 1) := rbit k w 8 hw (by omega) hk
  have b9 : gunnyref01_Bit.f k (w : Int) 9 = some (w / 512 % 2 == 1) := rbit k w 9 hw (by omega) hk
  have eP : wrap64 (Int.tmod (IntKind.u64.wrap (Int.tdiv (w : Int) 2)) 8) = ((pm w : Nat) : Int) := by
    rw [Int.tdiv_eq_ediv_of_nonneg (by omega), u64w, Int.tmod_eq_emod_of_nonneg (by omega)]
    unfold wrap64 pm
    omega
  have eM : wrap64 (Int.tmod (IntKind.u64.wrap (Int.tdiv (w : Int) 1024)) 17592186044416) = ((nm w : Nat) : Int) := by
    rw [Int.tdiv_eq_ediv_of_nonneg (by omega), u64w, Int.tmod_eq_emod_of_nonneg (by omega)]
    unfold wrap64 nm
    omega
  have eR : (IntKind.u64.wrap (Int.tdiv (w : Int) 18014398509481984) != 0) = (w / 18014398509481984 != 0) := by
    rw [Int.tdiv_eq_ediv_of_nonneg (by omega), u64w, Bool.eq_iff_iff, bne_iff_ne, bne_iff_ne]
    omega
  unfold gunnyref31_Read.f
  rw [bs b0, bs b4, bs b6, bs b7, bs b5, bs b8, bs b9, eP, eM, eR]
  unfold restB
  generalize (w / 32 % 2 == 1) = x5
  generalize (w / 256 % 2 == 1) = x8
  generalize (w / 512 % 2 == 1) = x9
  cases x5 <;> cases x8 <;> cases x9 <;> rfl

/-- A word's kind by its parts, where it has no other bit. -/
def G (x0 x4 x6 x7 P M : Nat) : Nat :=
  if x0 = 1 ∧ P = 0 ∧ x4 = 0 ∧ x6 = 0 ∧ x7 = 0 ∧ M < 96 then 1
  else if x0 = 1 ∧ x4 = 1 ∧ mayN P = true ∧ M < 96 ∧ (x7 = 0 ∨ x6 = 1 ∧ P / 2 % 2 = 1) then 2
  else if x0 = 0 ∧ x4 = 1 ∧ mayN P = true ∧ x6 = 0 ∧ x7 = 0 ∧ M ≤ 512 then 3 else 4

theorem knd_G (w x0 x4 x6 x7 P M : Nat) (h : w = x0 + 2 * P + 16 * x4 + 64 * x6 + 128 * x7 + 1024 * M) (h0 : x0 < 2) (h4 : x4 < 2) (hP : P < 8)
    (hn : nm w = M) (hp : pm w = P) (h6 : w / 64 % 2 = x6) (h7 : w / 128 % 2 = x7) (hz : w ≠ 0) : knd w = G x0 x4 x6 x7 P M := by
  have c1 : (nm w < 96 ∧ w = 1024 * nm w + 1) ↔ (x0 = 1 ∧ P = 0 ∧ x4 = 0 ∧ x6 = 0 ∧ x7 = 0 ∧ M < 96) := by rw [hn]; clear hn hp; omega
  have c2 : leafy w ↔ (x0 = 1 ∧ x4 = 1 ∧ mayN P = true ∧ M < 96 ∧ (x7 = 0 ∨ x6 = 1 ∧ P / 2 % 2 = 1)) := by
    unfold leafy
    rw [hn, hp, h6, h7]
    cases hm : mayN P with
    | false => constructor <;> (rintro ⟨a, b, c⟩; first | exact absurd b.symm (by decide) | exact absurd c.1.symm (by decide) | exact absurd b (by decide))
    | true =>
      constructor
      · rintro ⟨a, _, c, d⟩
        refine ⟨?_, ?_, rfl, a, ?_⟩ <;> clear hn hp hm <;> omega
      · rintro ⟨a, b, _, c, d⟩
        refine ⟨c, rfl, ?_, ?_⟩ <;> clear hn hp hm <;> omega
  have c3 : (nm w ≤ 512 ∧ mayN (pm w) = true ∧ w = 1024 * nm w + 2 * pm w + 16) ↔ (x0 = 0 ∧ x4 = 1 ∧ mayN P = true ∧ x6 = 0 ∧ x7 = 0 ∧ M ≤ 512) := by
    rw [hn, hp]
    constructor
    · rintro ⟨a, b, c⟩
      refine ⟨?_, ?_, b, ?_, ?_, a⟩ <;> clear hn hp b c1 c2 <;> omega
    · rintro ⟨a, b, c, d, e, f⟩
      refine ⟨f, c, ?_⟩
      clear hn hp c c1 c2
      omega
  unfold knd G
  rw [if_neg hz]
  simp only [c1, c2, c3]

theorem knd_parts (w : Nat) (h0 : w ≠ 0) (hr : restB w = false) : knd w = G (w % 2) (w / 16 % 2) (w / 64 % 2) (w / 128 % 2) (pm w) (nm w) := by
  unfold restB at hr
  simp only [Bool.or_eq_false_iff, beq_eq_false_iff_ne, bne_eq_false_iff_eq] at hr
  refine knd_G w _ _ _ _ _ _ ?_ (Nat.mod_lt _ (by decide)) (Nat.mod_lt _ (by decide)) (pm_lt w) rfl rfl rfl rfl h0
  unfold pm nm
  omega

theorem knd_rest (w : Nat) (hr : restB w = true) : w ≠ 0 ∧ knd w = 4 := by
  have hr' : w / 32 % 2 = 1 ∨ w / 256 % 2 = 1 ∨ w / 512 % 2 = 1 ∨ w / 18014398509481984 ≠ 0 := by
    unfold restB at hr
    simp only [Bool.or_eq_true, beq_iff_eq, bne_iff_ne] at hr
    omega
  have h0 : w ≠ 0 := by omega
  have c1 : ¬ (nm w < 96 ∧ w = 1024 * nm w + 1) := by unfold nm; omega
  have c2 : ¬ leafy w := by
    rintro ⟨a, _, c, _⟩
    have := pm_lt w
    generalize pm w = P at *
    generalize nm w = M at *
    omega
  have c3 : ¬ (nm w ≤ 512 ∧ mayN (pm w) = true ∧ w = 1024 * nm w + 2 * pm w + 16) := by
    rintro ⟨a, _, c⟩
    have := pm_lt w
    generalize pm w = P at *
    generalize nm w = M at *
    omega
  refine ⟨h0, ?_⟩
  unfold knd
  rw [if_neg h0, if_neg c1, if_neg c2, if_neg c3]

theorem half (P : Nat) (h : P < 8) : (Int.tmod (wrap64 (Int.tdiv (P : Int) 2)) 2 == 1) = decide (P / 2 % 2 = 1) := by
  have : P = 0 ∨ P = 1 ∨ P = 2 ∨ P = 3 ∨ P = 4 ∨ P = 5 ∨ P = 6 ∨ P = 7 := by omega
  rcases this with rfl | rfl | rfl | rfl | rfl | rfl | rfl | rfl <;> decide +kernel

theorem kind_core (k x0 x4 x6 x7 P M : Nat) (r : Bool) (h0 : x0 < 2) (h4 : x4 < 2) (h6 : x6 < 2) (h7 : x7 < 2) (hP : P < 8) :
    gunnyref31_Kind.j0 (k + 3) (!(x6 == 1) && !(x7 == 1)) (x0 == 1) (x4 == 1) (x6 == 1) (x7 == 1) (P : Int) (M : Int) r = some ((G x0 x4 x6 x7 P M : Nat) : Int) := by
  have a1 : ((P : Int) = 0) = (P = 0) := by rw [eq_iff_iff]; omega
  have a2 : ((M : Int) < 96) = (M < 96) := by rw [eq_iff_iff]; omega
  have a3 : ((M : Int) ≤ 512) = (M ≤ 512) := by rw [eq_iff_iff]; omega
  have a4 : P = 0 → mayN P = false := by rintro rfl; rfl
  have e0 : x0 = 0 ∨ x0 = 1 := by omega
  have e4 : x4 = 0 ∨ x4 = 1 := by omega
  have e6 : x6 = 0 ∨ x6 = 1 := by omega
  have e7 : x7 = 0 ∨ x7 = 1 := by omega
  have eh := half P hP
  unfold G
  by_cases p0 : P = 0
  · have pm0 := a4 p0
    have z : mayN 0 = false := rfl
    rcases e0 with rfl | rfl <;> rcases e4 with rfl | rfl <;> rcases e6 with rfl | rfl <;> rcases e7 with rfl | rfl <;> by_cases m96 : M < 96 <;> by_cases m512 : M ≤ 512 <;>
      (simp only [gunnyref31_Kind.j0, gunnyref31_Kind.j1, gunnyref31_Kind.j2, a1, a2, a3, eh, rmay, may_nat]; simp [p0, z, pm0, m96, m512])
  · by_cases p2 : P / 2 % 2 = 1 <;> cases hm : mayN P <;>
    rcases e0 with rfl | rfl <;> rcases e4 with rfl | rfl <;> rcases e6 with rfl | rfl <;> rcases e7 with rfl | rfl <;> by_cases m96 : M < 96 <;> by_cases m512 : M ≤ 512 <;>
      (simp only [gunnyref31_Kind.j0, gunnyref31_Kind.j1, gunnyref31_Kind.j2, a1, a2, a3, eh, rmay, may_nat]; simp [p0, p2, hm, m96, m512])

theorem rkind (k w : Nat) (hw : w < 18446744073709551616) (hk : 65 < k) : gunnyref31_Kind.f k (w : Int) = some ((knd w : Nat) : Int) := by
  obtain ⟨m, rfl⟩ : ∃ m, k = m + 3 := ⟨k - 3, by omega⟩
  unfold gunnyref31_Kind.f
  rw [bs (rread (m + 3) w hw hk)]
  by_cases h0 : w = 0
  · subst h0; rfl
  · rw [if_neg (by omega)]
    cases hr : restB w with
    | true => rw [if_pos rfl, (knd_rest w hr).2]; rfl
    | false =>
      rw [if_neg Bool.false_ne_true, knd_parts w h0 hr]
      have h := kind_core m (w % 2) (w / 16 % 2) (w / 64 % 2) (w / 128 % 2) (pm w) (nm w) false (Nat.mod_lt _ (by decide)) (Nat.mod_lt _ (by decide)) (Nat.mod_lt _ (by decide)) (Nat.mod_lt _ (by decide)) (pm_lt w)
      rw [← h]
      generalize (w / 64 % 2 == 1) = A
      cases A <;> rfl

end Go.Proofs.Ytcadfblcpfhjfaa.Pte
