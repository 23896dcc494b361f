-- written for this claim by a program (a patched print)
import Derived.Test.YtcadfblcpfhjfaaRx0
import Derived.Test.YtcadfblcpfhjfaaRx2
import Derived.Test.YtcadfblcpfhjfaaRx3
import Derived.Test.YtcadfblcpfhjfaaRx5
import Derived.Test.YtcadfblcpfhjfaaRx6
import Derived.Test.YtcadfblcpfhjfaaRx7
import Derived.Test.YtcadfblcpfhjfaaRx8
namespace Go.Proofs.Ytcadfblcpfhjfaa.R
open Go.RowKit Go.Proofs.YtcadfblcpfhjfaaW.PrintWords Go.Proofs.YtcadfblcpfhjfaaW.PrintLast Go.Proofs.YtcadfblcpfhjfaaW.PrintMore
attribute [local go_sem] max2_int min2_int max_two min_two max_three min_three max_four min_four   -- for this text's walks alone
set_option linter.unusedVariables false
set_option linter.unusedSimpArgs false

/-! ### gunnylaw31_PteTells: function 5 -/
mutual
def gunnylaw31_PteTells.j0 : Nat → Int → Int → Int → Bool → Bool → Bool → Bool → Bool → Int → Int → Bool → Option (Bool)
  | 0, _, _, _, _, _, _, _, _, _, _, _ => none
  | k + 1, x0, x1, x5, x24, x234000, x234001, x234002, x234003, x234004, x234005, x234006 => if x24 = true then (gunnylaw31_PteTells.j1 k x0 x1 x5 x234000 x234001 x234002 x234003 0 0 x234006) else (gunnylaw31_PteTells.j1 k x0 x1 x5 x234000 x234001 x234002 x234003 x234004 x234005 x234006)
def gunnylaw31_PteTells.j1 : Nat → Int → Int → Int → Bool → Bool → Bool → Bool → Int → Int → Bool → Option (Bool)
  | 0, _, _, _, _, _, _, _, _, _, _ => none
  | k + 1, x0, x1, x5, x234000, x234001, x234002, x234003, x234004, x234005, x234006 => (pte_Flags.f k x0).bind fun bt234 => ((pte_Kind.f k x0).bind fun t236 => (if t236 = x5 then ((pte_Number.f k x0).bind fun t237 => (if t237 = x234005 then ((pte_Perm.f k x0).bind fun t238 => (if t238 = x234004 then (if x5 = 2 then (if (bt234.1 != x234002) = true then (gunnylaw31_PteTells.j2 k x0 x1 x5 true x234000 x234001 x234002 x234003 x234004 x234005 x234006) else (gunnylaw31_PteTells.j2 k x0 x1 x5 (bt234.2 != x234003) x234000 x234001 x234002 x234003 x234004 x234005 x234006)) else (if (bt234.1 != false) = true then (gunnylaw31_PteTells.j2 k x0 x1 x5 true x234000 x234001 x234002 x234003 x234004 x234005 x234006) else (gunnylaw31_PteTells.j2 k x0 x1 x5 (bt234.2 != false) x234000 x234001 x234002 x234003 x234004 x234005 x234006))) else (gunnylaw31_PteTells.j2 k x0 x1 x5 true x234000 x234001 x234002 x234003 x234004 x234005 x234006))) else (gunnylaw31_PteTells.j2 k x0 x1 x5 true x234000 x234001 x234002 x234003 x234004 x234005 x234006))) else (gunnylaw31_PteTells.j2 k x0 x1 x5 true x234000 x234001 x234002 x234003 x234004 x234005 x234006)))
def gunnylaw31_PteTells.j2 : Nat → Int → Int → Int → Bool → Bool → Bool → Bool → Bool → Int → Int → Bool → Option (Bool)
  | 0, _, _, _, _, _, _, _, _, _, _, _ => none
  | k + 1, x0, x1, x5, x69, x234000, x234001, x234002, x234003, x234004, x234005, x234006 => if x69 = true then (some false) else (if x5 = 2 then ((gunnyref31_Put.f x234000 x234001 false false x234004 x234005 x234006).bind fun t240 => (gunnylaw31_PteTells.j3 k x0 x1 x5 t240 x234000 x234001 false false x234004 x234005 x234006)) else (gunnylaw31_PteTells.j3 k x0 x1 x5 x0 x234000 x234001 false false x234004 x234005 x234006))
def gunnylaw31_PteTells.j3 : Nat → Int → Int → Int → Int → Bool → Bool → Bool → Bool → Int → Int → Bool → Option (Bool)
  | 0, _, _, _, _, _, _, _, _, _, _, _ => none
  | k + 1, x0, x1, x5, x10, x240000, x240001, x240002, x240003, x240004, x240005, x240006 => (pte_Protect.f k x0 x1).bind fun bt241 => ((gunnyref31_May.f x1).bind fun t243 => (if t243 = true then (if x5 = 2 then (gunnylaw31_PteTells.j4 k x0 x1 x10 bt241.1 bt241.2 true x240000 x240001 x240002 x240003 x240004 x240005 x240006) else (gunnylaw31_PteTells.j4 k x0 x1 x10 bt241.1 bt241.2 (x5 == 3) x240000 x240001 x240002 x240003 x240004 x240005 x240006)) else (gunnylaw31_PteTells.j4 k x0 x1 x10 bt241.1 bt241.2 false x240000 x240001 x240002 x240003 x240004 x240005 x240006)))
def gunnylaw31_PteTells.j4 : Nat → Int → Int → Int → Int → Bool → Bool → Bool → Bool → Bool → Bool → Int → Int → Bool → Option (Bool)
  | 0, _, _, _, _, _, _, _, _, _, _, _, _, _ => none
  | k + 1, x0, x1, x10, x11, x12, x13, x240000, x240001, x240002, x240003, x240004, x240005, x240006 => if x13 = true then ((gunnyref31_Put.f x240000 x240001 x240002 x240003 x1 x240005 x240006).bind fun t244 => ((pte_Clear.f k x0).bind fun t245 => (if t245 = x10 then (if (x12 == x13) = true then (if x11 = t244 then ((gunnylaw31_lives.f k).bind fun t246 => (some t246)) else (some false)) else (some false)) else (some false)))) else ((pte_Clear.f k x0).bind fun t247 => (if t247 = x10 then (if (x12 == x13) = true then (if x11 = x0 then ((gunnylaw31_lives.f k).bind fun t248 => (some t248)) else (some false)) else (some false)) else (some false)))
end
def gunnylaw31_PteTells.f (k : Nat) (a0 : Int) (a1 : Int) : Option (Bool) := (gunnyref31_Kind.f k a0).bind fun t225 => ((gunnyref31_Read.f k a0).bind fun bt226 => (if t225 = 0 then (gunnylaw31_PteTells.j0 k a0 a1 t225 true bt226.1 bt226.2.1 bt226.2.2.1 bt226.2.2.2.1 bt226.2.2.2.2.1 bt226.2.2.2.2.2.1 bt226.2.2.2.2.2.2) else (gunnylaw31_PteTells.j0 k a0 a1 t225 (t225 == 4) bt226.1 bt226.2.1 bt226.2.2.1 bt226.2.2.2.1 bt226.2.2.2.2.1 bt226.2.2.2.2.2.1 bt226.2.2.2.2.2.2)))
theorem gunnylaw31_PteTells.mono_l : ∀ k, (∀ y0 y1 y2 y3 y4 y5 y6 y7 y8 y9 y10, LeO (gunnylaw31_PteTells.j0 k y0 y1 y2 y3 y4 y5 y6 y7 y8 y9 y10) (gunnylaw31_PteTells.j0 (k + 1) y0 y1 y2 y3 y4 y5 y6 y7 y8 y9 y10)) ∧ (∀ y0 y1 y2 y3 y4 y5 y6 y7 y8 y9, LeO (gunnylaw31_PteTells.j1 k y0 y1 y2 y3 y4 y5 y6 y7 y8 y9) (gunnylaw31_PteTells.j1 (k + 1) y0 y1 y2 y3 y4 y5 y6 y7 y8 y9)) ∧ (∀ y0 y1 y2 y3 y4 y5 y6 y7 y8 y9 y10, LeO (gunnylaw31_PteTells.j2 k y0 y1 y2 y3 y4 y5 y6 y7 y8 y9 y10) (gunnylaw31_PteTells.j2 (k + 1) y0 y1 y2 y3 y4 y5 y6 y7 y8 y9 y10)) ∧ (∀ y0 y1 y2 y3 y4 y5 y6 y7 y8 y9 y10, LeO (gunnylaw31_PteTells.j3 k y0 y1 y2 y3 y4 y5 y6 y7 y8 y9 y10) (gunnylaw31_PteTells.j3 (k + 1) y0 y1 y2 y3 y4 y5 y6 y7 y8 y9 y10)) ∧ (∀ y0 y1 y2 y3 y4 y5 y6 y7 y8 y9 y10 y11 y12, LeO (gunnylaw31_PteTells.j4 k y0 y1 y2 y3 y4 y5 y6 y7 y8 y9 y10 y11 y12) (gunnylaw31_PteTells.j4 (k + 1) y0 y1 y2 y3 y4 y5 y6 y7 y8 y9 y10 y11 y12))
  | 0 => ⟨fun _ _ _ _ _ _ _ _ _ _ _ r h => by simp [gunnylaw31_PteTells.j0] at h, fun _ _ _ _ _ _ _ _ _ _ r h => by simp [gunnylaw31_PteTells.j1] at h, fun _ _ _ _ _ _ _ _ _ _ _ r h => by simp [gunnylaw31_PteTells.j2] at h, fun _ _ _ _ _ _ _ _ _ _ _ r h => by simp [gunnylaw31_PteTells.j3] at h, fun _ _ _ _ _ _ _ _ _ _ _ _ _ r h => by simp [gunnylaw31_PteTells.j4] at h⟩
  | k + 1 => by
    obtain ⟨ih0, ih1, ih2, ih3, ih4⟩ := gunnylaw31_PteTells.mono_l k
    refine ⟨?_, ?_, ?_, ?_, ?_⟩
    · intro y0 y1 y2 y3 y4 y5 y6 y7 y8 y9 y10
      unfold gunnylaw31_PteTells.j0
      repeat' first
      | (with_reducible exact ih0 _ _ _ _ _ _ _ _ _ _ _)
      | (with_reducible exact ih1 _ _ _ _ _ _ _ _ _ _)
      | (with_reducible exact ih2 _ _ _ _ _ _ _ _ _ _ _)
      | (with_reducible exact ih3 _ _ _ _ _ _ _ _ _ _ _)
      | (with_reducible exact ih4 _ _ _ _ _ _ _ _ _ _ _ _ _)
      | (with_reducible exact gunnylaw31_lives.mono _)
      | (with_reducible exact gunnyref31_Kind.mono _ _)
      | (with_reducible exact gunnyref31_Read.mono _ _)
      | (with_reducible exact pte_Clear.mono _ _)
      | (with_reducible exact pte_Flags.mono _ _)
      | (with_reducible exact pte_Kind.mono _ _)
      | (with_reducible exact pte_Number.mono _ _)
      | (with_reducible exact pte_Perm.mono _ _)
      | (with_reducible exact pte_Protect.mono _ _ _)
      | (with_reducible exact LeO.refl _)
      | (with_reducible exact LeO.none _)
      | (with_reducible refine LeO.ite ?_ ?_)
      | (with_reducible refine LeO.bind ?_ (fun _ => ?_))
      | exact ih0 _ _ _ _ _ _ _ _ _ _ _
      | exact ih1 _ _ _ _ _ _ _ _ _ _
      | exact ih2 _ _ _ _ _ _ _ _ _ _ _
      | exact ih3 _ _ _ _ _ _ _ _ _ _ _
      | exact ih4 _ _ _ _ _ _ _ _ _ _ _ _ _
      | exact gunnylaw31_lives.mono _
      | exact gunnyref31_Kind.mono _ _
      | exact gunnyref31_Read.mono _ _
      | exact pte_Clear.mono _ _
      | exact pte_Flags.mono _ _
      | exact pte_Kind.mono _ _
      | exact pte_Number.mono _ _
      | exact pte_Perm.mono _ _
      | exact pte_Protect.mono _ _ _
      | exact LeO.none _
      | refine LeO.ite ?_ ?_
      | refine LeO.bind ?_ (fun _ => ?_)
    · intro y0 y1 y2 y3 y4 y5 y6 y7 y8 y9
      unfold gunnylaw31_PteTells.j1
      repeat' first
      | (with_reducible exact ih0 _ _ _ _ _ _ _ _ _ _ _)
      | (with_reducible exact ih1 _ _ _ _ _ _ _ _ _ _)
      | (with_reducible exact ih2 _ _ _ _ _ _ _ _ _ _ _)
      | (with_reducible exact ih3 _ _ _ _ _ _ _ _ _ _ _)
      | (with_reducible exact ih4 _ _ _ _ _ _ _ _ _ _ _ _ _)
      | (with_reducible exact gunnylaw31_lives.mono _)
      | (with_reducible exact gunnyref31_Kind.mono _ _)
      | (with_reducible exact gunnyref31_Read.mono _ _)
      | (with_reducible exact pte_Clear.mono _ _)
      | (with_reducible exact pte_Flags.mono _ _)
      | (with_reducible exact pte_Kind.mono _ _)
      | (with_reducible exact pte_Number.mono _ _)
      | (with_reducible exact pte_Perm.mono _ _)
      | (with_reducible exact pte_Protect.mono _ _ _)
      | (with_reducible exact LeO.refl _)
      | (with_reducible exact LeO.none _)
      | (with_reducible refine LeO.ite ?_ ?_)
      | (with_reducible refine LeO.bind ?_ (fun _ => ?_))
      | exact ih0 _ _ _ _ _ _ _ _ _ _ _
      | exact ih1 _ _ _ _ _ _ _ _ _ _
      | exact ih2 _ _ _ _ _ _ _ _ _ _ _
      | exact ih3 _ _ _ _ _ _ _ _ _ _ _
      | exact ih4 _ _ _ _ _ _ _ _ _ _ _ _ _
      | exact gunnylaw31_lives.mono _
      | exact gunnyref31_Kind.mono _ _
      | exact gunnyref31_Read.mono _ _
      | exact pte_Clear.mono _ _
      | exact pte_Flags.mono _ _
      | exact pte_Kind.mono _ _
      | exact pte_Number.mono _ _
      | exact pte_Perm.mono _ _
      | exact pte_Protect.mono _ _ _
      | exact LeO.none _
      | refine LeO.ite ?_ ?_
      | refine LeO.bind ?_ (fun _ => ?_)
    · intro y0 y1 y2 y3 y4 y5 y6 y7 y8 y9 y10
      unfold gunnylaw31_PteTells.j2
      repeat' first
      | (with_reducible exact ih0 _ _ _ _ _ _ _ _ _ _ _)
      | (with_reducible exact ih1 _ _ _ _ _ _ _ _ _ _)
      | (with_reducible exact ih2 _ _ _ _ _ _ _ _ _ _ _)
      | (with_reducible exact ih3 _ _ _ _ _ _ _ _ _ _ _)
      | (with_reducible exact ih4 _ _ _ _ _ _ _ _ _ _ _ _ _)
      | (with_reducible exact gunnylaw31_lives.mono _)
      | (with_reducible exact gunnyref31_Kind.mono _ _)
      | (with_reducible exact gunnyref31_Read.mono _ _)
      | (with_reducible exact pte_Clear.mono _ _)
      | (with_reducible exact pte_Flags.mono _ _)
      | (with_reducible exact pte_Kind.mono _ _)
      | (with_reducible exact pte_Number.mono _ _)
      | (with_reducible exact pte_Perm.mono _ _)
      | (with_reducible exact pte_Protect.mono _ _ _)
      | (with_reducible exact LeO.refl _)
      | (with_reducible exact LeO.none _)
      | (with_reducible refine LeO.ite ?_ ?_)
      | (with_reducible refine LeO.bind ?_ (fun _ => ?_))
      | exact ih0 _ _ _ _ _ _ _ _ _ _ _
      | exact ih1 _ _ _ _ _ _ _ _ _ _
      | exact ih2 _ _ _ _ _ _ _ _ _ _ _
      | exact ih3 _ _ _ _ _ _ _ _ _ _ _
      | exact ih4 _ _ _ _ _ _ _ _ _ _ _ _ _
      | exact gunnylaw31_lives.mono _
      | exact gunnyref31_Kind.mono _ _
      | exact gunnyref31_Read.mono _ _
      | exact pte_Clear.mono _ _
      | exact pte_Flags.mono _ _
      | exact pte_Kind.mono _ _
      | exact pte_Number.mono _ _
      | exact pte_Perm.mono _ _
      | exact pte_Protect.mono _ _ _
      | exact LeO.none _
      | refine LeO.ite ?_ ?_
      | refine LeO.bind ?_ (fun _ => ?_)
    · intro y0 y1 y2 y3 y4 y5 y6 y7 y8 y9 y10
      unfold gunnylaw31_PteTells.j3
      repeat' first
      | (with_reducible exact ih0 _ _ _ _ _ _ _ _ _ _ _)
      | (with_reducible exact ih1 _ _ _ _ _ _ _ _ _ _)
      | (with_reducible exact ih2 _ _ _ _ _ _ _ _ _ _ _)
      | (with_reducible exact ih3 _ _ _ _ _ _ _ _ _ _ _)
      | (with_reducible exact ih4 _ _ _ _ _ _ _ _ _ _ _ _ _)
      | (with_reducible exact gunnylaw31_lives.mono _)
      | (with_reducible exact gunnyref31_Kind.mono _ _)
      | (with_reducible exact gunnyref31_Read.mono _ _)
      | (with_reducible exact pte_Clear.mono _ _)
      | (with_reducible exact pte_Flags.mono _ _)
      | (with_reducible exact pte_Kind.mono _ _)
      | (with_reducible exact pte_Number.mono _ _)
      | (with_reducible exact pte_Perm.mono _ _)
      | (with_reducible exact pte_Protect.mono _ _ _)
      | (with_reducible exact LeO.refl _)
      | (with_reducible exact LeO.none _)
      | (with_reducible refine LeO.ite ?_ ?_)
      | (with_reducible refine LeO.bind ?_ (fun _ => ?_))
      | exact ih0 _ _ _ _ _ _ _ _ _ _ _
      | exact ih1 _ _ _ _ _ _ _ _ _ _
      | exact ih2 _ _ _ _ _ _ _ _ _ _ _
      | exact ih3 _ _ _ _ _ _ _ _ _ _ _
      | exact ih4 _ _ _ _ _ _ _ _ _ _ _ _ _
      | exact gunnylaw31_lives.mono _
      | exact gunnyref31_Kind.mono _ _
      | exact gunnyref31_Read.mono _ _
      | exact pte_Clear.mono _ _
      | exact pte_Flags.mono _ _
      | exact pte_Kind.mono _ _
      | exact pte_Number.mono _ _
      | exact pte_Perm.mono _ _
      | exact pte_Protect.mono _ _ _
      | exact LeO.none _
      | refine LeO.ite ?_ ?_
      | refine LeO.bind ?_ (fun _ => ?_)
    · intro y0 y1 y2 y3 y4 y5 y6 y7 y8 y9 y10 y11 y12
      unfold gunnylaw31_PteTells.j4
      repeat' first
      | (with_reducible exact ih0 _ _ _ _ _ _ _ _ _ _ _)
      | (with_reducible exact ih1 _ _ _ _ _ _ _ _ _ _)
      | (with_reducible exact ih2 _ _ _ _ _ _ _ _ _ _ _)
      | (with_reducible exact ih3 _ _ _ _ _ _ _ _ _ _ _)
      | (with_reducible exact ih4 _ _ _ _ _ _ _ _ _ _ _ _ _)
      | (with_reducible exact gunnylaw31_lives.mono _)
      | (with_reducible exact gunnyref31_Kind.mono _ _)
      | (with_reducible exact gunnyref31_Read.mono _ _)
      | (with_reducible exact pte_Clear.mono _ _)
      | (with_reducible exact pte_Flags.mono _ _)
      | (with_reducible exact pte_Kind.mono _ _)
      | (with_reducible exact pte_Number.mono _ _)
      | (with_reducible exact pte_Perm.mono _ _)
      | (with_reducible exact pte_Protect.mono _ _ _)
      | (with_reducible exact LeO.refl _)
      | (with_reducible exact LeO.none _)
      | (with_reducible refine LeO.ite ?_ ?_)
      | (with_reducible refine LeO.bind ?_ (fun _ => ?_))
      | exact ih0 _ _ _ _ _ _ _ _ _ _ _
      | exact ih1 _ _ _ _ _ _ _ _ _ _
      | exact ih2 _ _ _ _ _ _ _ _ _ _ _
      | exact ih3 _ _ _ _ _ _ _ _ _ _ _
      | exact ih4 _ _ _ _ _ _ _ _ _ _ _ _ _
      | exact gunnylaw31_lives.mono _
      | exact gunnyref31_Kind.mono _ _
      | exact gunnyref31_Read.mono _ _
      | exact pte_Clear.mono _ _
      | exact pte_Flags.mono _ _
      | exact pte_Kind.mono _ _
      | exact pte_Number.mono _ _
      | exact pte_Perm.mono _ _
      | exact pte_Protect.mono _ _ _
      | exact LeO.none _
      | refine LeO.ite ?_ ?_
      | refine LeO.bind ?_ (fun _ => ?_)
theorem gunnylaw31_PteTells.mono : ∀ a0 a1 k, LeO (gunnylaw31_PteTells.f k a0 a1) (gunnylaw31_PteTells.f (k + 1) a0 a1) := by
  intro a0 a1 k
  obtain ⟨ih0, ih1, ih2, ih3, ih4⟩ := gunnylaw31_PteTells.mono_l k
  unfold gunnylaw31_PteTells.f
  repeat' first
      | (with_reducible exact ih0 _ _ _ _ _ _ _ _ _ _ _)
      | (with_reducible exact ih1 _ _ _ _ _ _ _ _ _ _)
      | (with_reducible exact ih2 _ _ _ _ _ _ _ _ _ _ _)
      | (with_reducible exact ih3 _ _ _ _ _ _ _ _ _ _ _)
      | (with_reducible exact ih4 _ _ _ _ _ _ _ _ _ _ _ _ _)
      | (with_reducible exact gunnylaw31_lives.mono _)
      | (with_reducible exact gunnyref31_Kind.mono _ _)
      | (with_reducible exact gunnyref31_Read.mono _ _)
      | (with_reducible exact pte_Clear.mono _ _)
      | (with_reducible exact pte_Flags.mono _ _)
      | (with_reducible exact pte_Kind.mono _ _)
      | (with_reducible exact pte_Number.mono _ _)
      | (with_reducible exact pte_Perm.mono _ _)
      | (with_reducible exact pte_Protect.mono _ _ _)
      | (with_reducible exact LeO.refl _)
      | (with_reducible exact LeO.none _)
      | (with_reducible refine LeO.ite ?_ ?_)
      | (with_reducible refine LeO.bind ?_ (fun _ => ?_))
      | exact ih0 _ _ _ _ _ _ _ _ _ _ _
      | exact ih1 _ _ _ _ _ _ _ _ _ _
      | exact ih2 _ _ _ _ _ _ _ _ _ _ _
      | exact ih3 _ _ _ _ _ _ _ _ _ _ _
      | exact ih4 _ _ _ _ _ _ _ _ _ _ _ _ _
      | exact gunnylaw31_lives.mono _
      | exact gunnyref31_Kind.mono _ _
      | exact gunnyref31_Read.mono _ _
      | exact pte_Clear.mono _ _
      | exact pte_Flags.mono _ _
      | exact pte_Kind.mono _ _
      | exact pte_Number.mono _ _
      | exact pte_Perm.mono _ _
      | exact pte_Protect.mono _ _ _
      | exact LeO.none _
      | refine LeO.ite ?_ ?_
      | refine LeO.bind ?_ (fun _ => ?_)
def gunnylaw31_PteTells.T7 : Bool × List (List Nat × List Nat) := (true, [([], []), ([0], [0]), ([], []), ([1, 2], [1, 2]), ([3, 1], [3]), ([4], [4]), ([5, 4, 4], [4, 5]), ([4], [4]), ([7, 4], [4, 7]), ([6, 8, 4], [4, 6, 8]), ([4, 9], [4, 9]), ([10, 6], [10]), ([11], [11]), ([12, 11, 11], [11, 12]), ([11], [11]), ([14, 11], [11, 14]), ([13, 15, 11], [11, 13, 15]), ([11, 16], [11, 16]), ([17, 13], [17]), ([18], [18]), ([18], [18]), ([20, 18], [18, 20]), ([21, 18, 18], [18, 21]), ([22], [22]), ([23, 22], [22, 23]), ([22, 24, 18], [18, 22, 24]), ([19, 25, 18], [18, 19, 25]), ([18, 26], [18, 26]), ([27, 22], [27]), ([28], [28]), ([28], [28]), ([30, 28], [28, 30]), ([31, 28, 28], [28, 31]), ([32], [32]), ([33, 32], [32, 33]), ([32, 34, 28], [28, 32, 34]), ([29, 35, 28], [28, 29, 35]), ([28, 36], [28, 36])])
def gunnylaw31_PteTells.B7 : List Nat := [0, 1, 0, 7, 15, 31, 63, 31, 159, 511, 1023, 2047, 4095, 8191, 4095, 20479, 65535, 131071, 262143, 524287, 524287, 1572863, 3670015, 7864319, 16252927, 33030143, 67108863, 134217727, 268435455, 536870911, 536870911, 1610612735, 3758096383, 8053063679, 16642998271, 33822867455, 68719476735, 137438953471]
theorem gunnylaw31_PteTells.tab7 : rtab .any (opsOf Try.f5 7) = gunnylaw31_PteTells.T7 := by kernel_rfl
theorem gunnylaw31_PteTells.bits7 : waitsOk gunnylaw31_PteTells.T7.2 gunnylaw31_PteTells.B7 = true := by kernel_rfl

end Go.Proofs.Ytcadfblcpfhjfaa.R
