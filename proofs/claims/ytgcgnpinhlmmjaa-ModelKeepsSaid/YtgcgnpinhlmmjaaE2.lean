/- How many ops are gone through; what is loaded behind a store: plain. -/
import Derived.Test.YtgcgnpinhlmmjaaE1
import Derived.Test.YtgcgnpinhlmmjaaRx2
namespace Go.Proofs.Ytgcgnpinhlmmjaa.Hand
set_option linter.unusedVariables false
set_option linter.unusedSimpArgs false
open Go.RowKit Go.Proofs.Ytgcgnpinhlmmjaa.R Go.Proofs.Ytgcgnpinhlmmjaa.Va Go.Proofs.YtgcgnpinhlmmjaaW.PrintWords

theorem great_l0 (l : List S25) (d : Nat) : ∀ (k i : Nat), i + d = 501 → 2 * d + 4 < k → ∃ b, gunnylaw37_Great.l0 k l [] (i : Int) = some b ∧ (b = false → l.length ≤ 150) := by
  have hend : ∀ (k : Nat) (i : Int), 0 < k → ∃ b, gunnylaw37_Great.j1 k l [] i false = some b ∧ (b = false → l.length ≤ 150) := by
    intro k i hk
    obtain ⟨k, rfl⟩ : ∃ m, k = m + 1 := ⟨k - 1, by omega⟩
    simp only [gunnylaw37_Great.j1]
    rw [if_neg (by decide)]
    by_cases h : (l.length : Int) > 150
    · rw [if_pos h]
      exact ⟨true, rfl, fun e => by cases e⟩
    · rw [if_neg h]
      exact ⟨_, rfl, fun _ => by omega⟩
  induction d with
  | zero =>
    intro k i hi hk
    obtain ⟨k, rfl⟩ : ∃ m, k = m + 1 := ⟨k - 1, by omega⟩
    simp only [gunnylaw37_Great.l0]
    split
    · rw [decide_eq_false (by omega)]
      exact hend k _ (by omega)
    · exact hend k _ (by omega)
  | succ d ih =>
    intro k i hi hk
    obtain ⟨k, rfl⟩ : ∃ m, k = m + 1 := ⟨k - 1, by omega⟩
    simp only [gunnylaw37_Great.l0]
    split
    · rename_i hlt
      by_cases h5 : (i : Int) < 500
      · rw [decide_eq_true h5]
        obtain ⟨k, rfl⟩ : ∃ m, k = m + 1 := ⟨k - 1, by omega⟩
        simp only [gunnylaw37_Great.j1]
        rw [if_pos trivial, if_pos (by omega), if_pos hlt]
        split
        · exact ⟨true, rfl, fun e => by cases e⟩
        · rw [w64s i (by omega)]
          exact ih k (i + 1) (by omega) (by omega)
      · rw [decide_eq_false h5]
        exact hend k _ (by omega)
    · exact hend k _ (by omega)
theorem great_some (l : List S25) : ∃ b, gunnylaw37_Great.f 2000 l [] = some b ∧ (b = false → l.length ≤ 150) := great_l0 l 501 2000 0 (by omega) (by omega)

theorem page_of {a : Nat} (ha : a < 18446744073709551616) (h : canonB a = true) : atE (a - a % 4096) = 0 ∧ pnum (a - a % 4096) = pnum a := by
  have h1 : sp a = a := of_decide_eq_true h
  have h2 : sp (a - a % 4096) = a - a % 4096 := by
    unfold sp at h1 ⊢
    split at h1 <;> split <;> omega
  refine ⟨?_, by unfold pnum; omega⟩
  unfold atE canonB
  rw [decide_eq_true h2, if_neg (by decide), if_neg (by omega)]
/-- What was stored is loaded. -/
theorem store_load {L : List Pg} (hs : Srt L) (ho : okP L) (a : Nat) (ha : a < 18446744073709551616) (xs : List Int) (hx : ∀ x ∈ xs, 0 ≤ x ∧ x < 256) (hm : mayB L a (xs.length : Int) 2 = 0) :
    ∃ r, (runL (storeF L a 0 xs) [⟨2, 7, 0, ((a - a % 4096 : Nat) : Int), []⟩, ⟨3, 0, 1, (a : Int), []⟩]).2 = [r, ⟨0, 0, [xs.getD 0 0]⟩] := by
  obtain ⟨m1, m2, m3⟩ := mayB_range hm
  rw [Int.toNat_natCast] at m3
  have h0 := m3 0 (by omega)
  have ea : addr a 0 = a := by unfold addr; omega
  obtain ⟨z1, z2, p, hp, _⟩ := may1_zero h0
  rw [ea] at z1 z2 hp
  obtain ⟨e1, e2⟩ := page_of ha z2
  have hL := byteAt_storeF a ha a ha z2 xs 0 L (by omega) ho hx (fun j hj => by rw [Nat.zero_add]; exact m3 j hj)
  rw [if_pos (by omega), Nat.add_zero, Nat.sub_self] at hL
  have hhas : hasP (storeF L a 0 xs) (pnum a) = true := by
    rw [hasP_ns, storeF_ns, ← hasP_ns, hasP_get, hp]
    rfl
  generalize storeF L a 0 xs = L1 at *
  obtain ⟨q, hq⟩ : ∃ q, getP L1 (pnum a) = some q := by
    rw [hasP_get] at hhas
    exact Option.isSome_iff_exists.1 hhas
  have hqn := (getP_mem hq).2
  have hE : protE L1 (a - a % 4096) 7 = 0 := by
    unfold protE
    rw [if_neg (by rw [e1]; decide), if_neg (by decide), e2, if_pos hhas]
  have hP : protL L1 (a - a % 4096) 7 = repP L1 ⟨q.n, 7, q.data⟩ := by
    unfold protL
    rw [if_pos hE, e2, hq]
  have hd1 : doesL L1 ⟨2, 7, 0, ((a - a % 4096 : Nat) : Int), []⟩ = (repP L1 ⟨q.n, 7, q.data⟩, 0, []) := by
    unfold doesL
    simp only []
    rw [if_neg (by decide), if_neg (by decide), if_pos trivial, Int.toNat_natCast, hP, hE]
  have hg : getP (repP L1 ⟨q.n, 7, q.data⟩) (pnum a) = some ⟨q.n, 7, q.data⟩ := by
    rw [getP_rep, if_pos hqn.symm, if_pos hhas]
  have hm2 : mayB (repP L1 ⟨q.n, 7, q.data⟩) a 1 1 = 0 := by
    unfold mayB
    rw [if_neg (by decide), if_neg (by decide)]
    show mayF _ a 1 0 1 = 0
    have hm1 : may1 (repP L1 ⟨q.n, 7, q.data⟩) a 1 0 = 0 := by
      unfold may1
      rw [ea, if_neg z1, if_neg (by rw [z2]; decide), hg]
      show (if Go.bits .and .i64 7 1 = 0 then (10 : Int) else 0) = 0
      rw [if_neg (by decide)]
    unfold mayF
    rw [if_pos hm1]
    rfl
  have hd2 : doesL (repP L1 ⟨q.n, 7, q.data⟩) ⟨3, 0, 1, (a : Int), []⟩ = (repP L1 ⟨q.n, 7, q.data⟩, 0, [xs.getD 0 0]) := by
    unfold doesL
    simp only []
    rw [if_neg (by decide), if_neg (by decide), if_neg (by decide), if_pos trivial, Int.toNat_natCast, hm2]
    unfold readD
    rw [if_pos hm2]
    show (_, _, [byteAt (repP L1 ⟨q.n, 7, q.data⟩) (addr a 0)]) = _
    rw [ea, ← hL]
    unfold byteAt
    rw [hg, hq]
  refine ⟨ansOf L1 ⟨2, 7, 0, ((a - a % 4096 : Nat) : Int), []⟩, ?_⟩
  show [_, ansOf (doesL L1 ⟨2, 7, 0, ((a - a % 4096 : Nat) : Int), []⟩).1 ⟨3, 0, 1, (a : Int), []⟩] = _
  rw [hd1]
  unfold ansOf
  rw [hd2]
end Go.Proofs.Ytgcgnpinhlmmjaa.Hand
