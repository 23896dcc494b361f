/- ZspageReads: the frames of the row, plain. -/
import Derived.Test.YtejeehcmcadmcaaM5
namespace Go.Proofs.Ytejeehcmcadmcaa.Hand
set_option linter.unusedVariables false
set_option linter.unusedSimpArgs false
open Go.RowKit Go.Proofs.Ytejeehcmcadmcaa.R Go.Proofs.YtejeehcmcadmcaaW.PrintWords Go.Proofs.YtejeehcmcadmcaaW.PrintLast Go.Proofs.YtejeehcmcadmcaaW.PrintMore

/-- The bytes that frame n is given. -/
def pat (n : Nat) : List Int := (List.range 4096).map fun k => (((7 * n + k % 251) % 256 : Nat) : Int)
def ownR (i : Nat) : List Int := List.replicate i 3 ++ List.replicate (8 - i) 0
def patsR (i : Nat) : List Int := (List.range i).flatMap pat
def BR (i : Nat) : List Int := patsR i ++ List.replicate (4096 * (8 - i)) 0
theorem pat_length (n : Nat) : (pat n).length = 4096 := by unfold pat; rw [List.length_map, List.length_range]
theorem patsR_succ (i : Nat) : patsR (i + 1) = patsR i ++ pat i := by
  unfold patsR
  rw [List.range_succ, List.flatMap_append, List.flatMap_singleton]
theorem patsR_length (i : Nat) : (patsR i).length = 4096 * i := by
  induction i with
  | zero => rfl
  | succ i ih => rw [patsR_succ, List.length_append, ih, pat_length]; omega
theorem BR_over (i : Nat) (h : i < 8) (l : List Int) (hl : l.length = 4096) : over (BR i) (4096 * i) l = patsR i ++ l ++ List.replicate (4096 * (7 - i)) 0 := by
  have hp := patsR_length i
  unfold over BR
  rw [List.take_append_of_le_length (by omega), List.take_of_length_le (by omega), List.drop_append, List.drop_of_length_le (by omega), List.nil_append, List.drop_replicate, hp, hl]
  congr 2
  omega
theorem BR_take (i : Nat) (h : i < 8) : over (BR i) (4096 * i) (List.replicate 4096 0) = BR i := by
  rw [BR_over i h _ List.length_replicate, List.append_assoc, List.replicate_append_replicate]
  unfold BR
  congr 2
  omega
theorem BR_write (i : Nat) (h : i < 8) : over (BR i) (4096 * i) (pat i) = BR (i + 1) := by
  rw [BR_over i h _ (pat_length i), ← patsR_succ]
  unfold BR
  congr 2
  omega
theorem tkR (i : Nat) (h : i < 4) (t : Int) : tk (ownR i) (dn 8 i) t 3 = ⟨ownR (i + 1), dn 8 (i + 1), wrap64 (t + 1), (i : Int), true⟩ := by
  match i, h with
  | 0, _ => unfold tk; rw [if_pos (by decide)]; rfl
  | 1, _ => unfold tk; rw [if_pos (by decide)]; rfl
  | 2, _ => unfold tk; rw [if_pos (by decide)]; rfl
  | 3, _ => unfold tk; rw [if_pos (by decide)]; rfl
theorem ownR_get (m i : Nat) (h : i < m) : (ownR m).getD i 0 = 3 := by
  unfold ownR
  rw [List.getD_eq_getElem?_getD, List.getElem?_append_left (by rw [List.length_replicate]; exact h), List.getElem?_replicate, if_pos h]
  rfl
theorem ownR_length (m : Nat) (h : m ≤ 8) : (ownR m).length = 8 := by
  unfold ownR
  rw [List.length_append, List.length_replicate, List.length_replicate]
  omega
theorem ownerR (m i : Nat) (h : i < m) (hm : m ≤ 8) : ownerOf (ownR m) (i : Int) = 3 := by
  unfold ownerOf
  rw [if_pos (by rw [ownR_length m hm]; omega), Int.toNat_natCast, ownR_get m i h]
theorem pkR (m i at_ size : Nat) (h : i < m) (hm : m ≤ 8) (h2 : at_ + size ≤ 4096) (h3 : True) : pk (ownR m) (i : Int) (at_ : Int) (size : Int) := by
  refine ⟨?_, by omega, by omega, by omega⟩
  rw [ownerR m i h hm]
  decide
theorem isBytes_pat (n : Nat) : isBytes (pat n) := by
  intro x hx
  unfold pat at hx
  obtain ⟨k, _, rfl⟩ := List.mem_map.1 hx
  omega

end Go.Proofs.Ytejeehcmcadmcaa.Hand
