-- written for this claim by a program (a patched print)
import Derived.Test.YtcadfblcpfhjfaaRx0
import Derived.Test.YtcadfblcpfhjfaaRx1
import Derived.Test.YtcadfblcpfhjfaaRx2
import Derived.Test.YtcadfblcpfhjfaaRx3
import Derived.Test.YtcadfblcpfhjfaaRx5
import Derived.Test.YtcadfblcpfhjfaaRx7
import Derived.Test.YtcadfblcpfhjfaaRx8
namespace Go.Proofs.Ytcadfblcpfhjfaa.R
open Go.RowKit Go.Proofs.YtcadfblcpfhjfaaW.PrintWords Go.Proofs.YtcadfblcpfhjfaaW.PrintLast Go.Proofs.YtcadfblcpfhjfaaW.PrintMore
attribute [local go_sem] max2_int min2_int max_two min_two max_three min_three max_four min_four   -- for this text's walks alone
set_option linter.unusedVariables false
set_option linter.unusedSimpArgs false

/-! ### gunnylaw31_PteBack: function 6 -/
def gunnylaw31_PteBack.j0 : Nat → Int → Int → Int → Int → Bool → Option (Bool)
  | 0, _, _, _, _, _ => none
  | k + 1, x0, x7, x8, x9, x110 => if x110 = true then (some false) else ((pte_Away.f k (Int.tmod (wrap64 (x0)) 513) x8).bind fun bt268 => ((pte_Down.f k x7).bind fun bt270 => (if bt268.2 = true then (if bt270.2 = true then ((pte_Kind.f k bt268.1).bind fun t272 => (if t272 = 3 then ((pte_Number.f k bt268.1).bind fun t273 => (if t273 = (Int.tmod (wrap64 (x0)) 513) then ((pte_Perm.f k bt268.1).bind fun t274 => (if t274 = x8 then ((pte_Kind.f k bt270.1).bind fun t275 => (if t275 = 1 then ((pte_Number.f k bt270.1).bind fun t276 => (if t276 = x7 then (if bt268.1 = x9 then (some false) else (if bt270.1 = x9 then (some false) else (if bt268.1 = bt270.1 then (some false) else ((gunnylaw31_lives.f k).bind fun t277 => (some t277))))) else (some false))) else (some false))) else (some false))) else (some false))) else (some false))) else (some false)) else (some false))))
def gunnylaw31_PteBack.f (k : Nat) (a0 : Int) (a1 : Int) (a2 : Int) : Option (Bool) := (pte_Page.f k (Int.tmod (wrap64 (a0)) 96) (wrap64 (Int.tmod a1 8))).bind fun bt249 => (if bt249.2 = true then (if 0 ≤ (Int.tmod a2 3) then ((pte_Touch.f k bt249.1 (([shl .i64 1 (Int.tmod a2 3)] : List Int))).bind fun bt256 => ((pte_Flags.f k bt256.1).bind fun bt258 => (if (bt256.2 != ((Go.bits .and .i64 (wrap64 (Int.tmod a1 8)) (shl .i64 1 (Int.tmod a2 3))) != 0)) = true then (gunnylaw31_PteBack.j0 k a0 (Int.tmod (wrap64 (a0)) 96) (wrap64 (Int.tmod a1 8)) bt249.1 true) else (if (bt258.1 != bt256.2) = true then (gunnylaw31_PteBack.j0 k a0 (Int.tmod (wrap64 (a0)) 96) (wrap64 (Int.tmod a1 8)) bt249.1 true) else (if bt256.2 = true then (if (bt258.2 != ((shl .i64 1 (Int.tmod a2 3)) == 2)) = true then (gunnylaw31_PteBack.j0 k a0 (Int.tmod (wrap64 (a0)) 96) (wrap64 (Int.tmod a1 8)) bt249.1 true) else ((pte_Clear.f k bt256.1).bind fun t260 => (if t260 = bt249.1 then ((pte_Number.f k bt256.1).bind fun t261 => (if t261 = (Int.tmod (wrap64 (a0)) 96) then ((pte_Perm.f k bt256.1).bind fun t262 => (if t262 = (wrap64 (Int.tmod a1 8)) then ((pte_Kind.f k bt256.1).bind fun t263 => (gunnylaw31_PteBack.j0 k a0 (Int.tmod (wrap64 (a0)) 96) (wrap64 (Int.tmod a1 8)) bt249.1 (t263 != 2))) else (gunnylaw31_PteBack.j0 k a0 (Int.tmod (wrap64 (a0)) 96) (wrap64 (Int.tmod a1 8)) bt249.1 true))) else (gunnylaw31_PteBack.j0 k a0 (Int.tmod (wrap64 (a0)) 96) (wrap64 (Int.tmod a1 8)) bt249.1 true))) else (gunnylaw31_PteBack.j0 k a0 (Int.tmod (wrap64 (a0)) 96) (wrap64 (Int.tmod a1 8)) bt249.1 true)))) else (if (bt258.2 != false) = true then (gunnylaw31_PteBack.j0 k a0 (Int.tmod (wrap64 (a0)) 96) (wrap64 (Int.tmod a1 8)) bt249.1 true) else (if bt256.1 = bt249.1 then ((pte_Clear.f k bt256.1).bind fun t264 => (if t264 = bt249.1 then ((pte_Number.f k bt256.1).bind fun t265 => (if t265 = (Int.tmod (wrap64 (a0)) 96) then ((pte_Perm.f k bt256.1).bind fun t266 => (if t266 = (wrap64 (Int.tmod a1 8)) then ((pte_Kind.f k bt256.1).bind fun t267 => (gunnylaw31_PteBack.j0 k a0 (Int.tmod (wrap64 (a0)) 96) (wrap64 (Int.tmod a1 8)) bt249.1 (t267 != 2))) else (gunnylaw31_PteBack.j0 k a0 (Int.tmod (wrap64 (a0)) 96) (wrap64 (Int.tmod a1 8)) bt249.1 true))) else (gunnylaw31_PteBack.j0 k a0 (Int.tmod (wrap64 (a0)) 96) (wrap64 (Int.tmod a1 8)) bt249.1 true))) else (gunnylaw31_PteBack.j0 k a0 (Int.tmod (wrap64 (a0)) 96) (wrap64 (Int.tmod a1 8)) bt249.1 true))) else (gunnylaw31_PteBack.j0 k a0 (Int.tmod (wrap64 (a0)) 96) (wrap64 (Int.tmod a1 8)) bt249.1 true)))))))) else (none)) else ((pte_May.f (wrap64 (Int.tmod a1 8))).bind fun t251 => (if t251 = true then (some false) else (if bt249.1 = 0 then ((gunnylaw31_lives.f k).bind fun t252 => (some t252)) else (some false)))))
theorem gunnylaw31_PteBack.mono_l : ∀ k, (∀ y0 y1 y2 y3 y4, LeO (gunnylaw31_PteBack.j0 k y0 y1 y2 y3 y4) (gunnylaw31_PteBack.j0 (k + 1) y0 y1 y2 y3 y4))
  | 0 => fun _ _ _ _ _ r h => by simp [gunnylaw31_PteBack.j0] at h
  | k + 1 => by
    have ih0 := gunnylaw31_PteBack.mono_l k
    · intro y0 y1 y2 y3 y4
      unfold gunnylaw31_PteBack.j0
      repeat' first
      | (with_reducible exact ih0 _ _ _ _ _)
      | (with_reducible exact gunnylaw31_lives.mono _)
      | (with_reducible exact pte_Away.mono _ _ _)
      | (with_reducible exact pte_Clear.mono _ _)
      | (with_reducible exact pte_Down.mono _ _)
      | (with_reducible exact pte_Flags.mono _ _)
      | (with_reducible exact pte_Kind.mono _ _)
      | (with_reducible exact pte_Number.mono _ _)
      | (with_reducible exact pte_Page.mono _ _ _)
      | (with_reducible exact pte_Perm.mono _ _)
      | (with_reducible exact pte_Touch.mono _ _ _)
      | (with_reducible exact LeO.refl _)
      | (with_reducible exact LeO.none _)
      | (with_reducible refine LeO.ite ?_ ?_)
      | (with_reducible refine LeO.bind ?_ (fun _ => ?_))
      | exact ih0 _ _ _ _ _
      | exact gunnylaw31_lives.mono _
      | exact pte_Away.mono _ _ _
      | exact pte_Clear.mono _ _
      | exact pte_Down.mono _ _
      | exact pte_Flags.mono _ _
      | exact pte_Kind.mono _ _
      | exact pte_Number.mono _ _
      | exact pte_Page.mono _ _ _
      | exact pte_Perm.mono _ _
      | exact pte_Touch.mono _ _ _
      | exact LeO.none _
      | refine LeO.ite ?_ ?_
      | refine LeO.bind ?_ (fun _ => ?_)
theorem gunnylaw31_PteBack.mono : ∀ a0 a1 a2 k, LeO (gunnylaw31_PteBack.f k a0 a1 a2) (gunnylaw31_PteBack.f (k + 1) a0 a1 a2) := by
  intro a0 a1 a2 k
  have ih0 := gunnylaw31_PteBack.mono_l k
  unfold gunnylaw31_PteBack.f
  repeat' first
      | (with_reducible exact ih0 _ _ _ _ _)
      | (with_reducible exact gunnylaw31_lives.mono _)
      | (with_reducible exact pte_Away.mono _ _ _)
      | (with_reducible exact pte_Clear.mono _ _)
      | (with_reducible exact pte_Down.mono _ _)
      | (with_reducible exact pte_Flags.mono _ _)
      | (with_reducible exact pte_Kind.mono _ _)
      | (with_reducible exact pte_Number.mono _ _)
      | (with_reducible exact pte_Page.mono _ _ _)
      | (with_reducible exact pte_Perm.mono _ _)
      | (with_reducible exact pte_Touch.mono _ _ _)
      | (with_reducible exact LeO.refl _)
      | (with_reducible exact LeO.none _)
      | (with_reducible refine LeO.ite ?_ ?_)
      | (with_reducible refine LeO.bind ?_ (fun _ => ?_))
      | exact ih0 _ _ _ _ _
      | exact gunnylaw31_lives.mono _
      | exact pte_Away.mono _ _ _
      | exact pte_Clear.mono _ _
      | exact pte_Down.mono _ _
      | exact pte_Flags.mono _ _
      | exact pte_Kind.mono _ _
      | exact pte_Number.mono _ _
      | exact pte_Page.mono _ _ _
      | exact pte_Perm.mono _ _
      | exact pte_Touch.mono _ _ _
      | exact LeO.none _
      | refine LeO.ite ?_ ?_
      | refine LeO.bind ?_ (fun _ => ?_)
set_option maxHeartbeats 8000000 in
set_option maxRecDepth 100000 in
theorem gunnylaw31_PteBack.calls (k : Nat) (a0 : Int) (a1 : Int) (a2 : Int) (r : Bool) (w : World) (h : gunnylaw31_PteBack.f k a0 a1 a2 = some r) :
    Calls Try.prog 6 #[.int .u16 a0, .int .u8 a1, .int .u8 a2] w fun e w' => e = .returned (.bool r) ∧ Below w.heap.size w w' := by
  have HB := Aside0.mk (Below.refl w.heap.size w)
  have H : ((pte_Page.f k (Int.tmod (wrap64 (a0)) 96) (wrap64 (Int.tmod a1 8))).bind fun bt249 => (if bt249.2 = true then (if 0 ≤ (Int.tmod a2 3) then ((pte_Touch.f k bt249.1 (([shl .i64 1 (Int.tmod a2 3)] : List Int))).bind fun bt256 => ((pte_Flags.f k bt256.1).bind fun bt258 => (if (bt256.2 != ((Go.bits .and .i64 (wrap64 (Int.tmod a1 8)) (shl .i64 1 (Int.tmod a2 3))) != 0)) = true then (gunnylaw31_PteBack.j0 k a0 (Int.tmod (wrap64 (a0)) 96) (wrap64 (Int.tmod a1 8)) bt249.1 true) else (if (bt258.1 != bt256.2) = true then (gunnylaw31_PteBack.j0 k a0 (Int.tmod (wrap64 (a0)) 96) (wrap64 (Int.tmod a1 8)) bt249.1 true) else (if bt256.2 = true then (if (bt258.2 != ((shl .i64 1 (Int.tmod a2 3)) == 2)) = true then (gunnylaw31_PteBack.j0 k a0 (Int.tmod (wrap64 (a0)) 96) (wrap64 (Int.tmod a1 8)) bt249.1 true) else ((pte_Clear.f k bt256.1).bind fun t260 => (if t260 = bt249.1 then ((pte_Number.f k bt256.1).bind fun t261 => (if t261 = (Int.tmod (wrap64 (a0)) 96) then ((pte_Perm.f k bt256.1).bind fun t262 => (if t262 = (wrap64 (Int.tmod a1 8)) then ((pte_Kind.f k bt256.1).bind fun t263 => (gunnylaw31_PteBack.j0 k a0 (Int.tmod (wrap64 (a0)) 96) (wrap64 (Int.tmod a1 8)) bt249.1 (t263 != 2))) else (gunnylaw31_PteBack.j0 k a0 (Int.tmod (wrap64 (a0)) 96) (wrap64 (Int.tmod a1 8)) bt249.1 true))) else (gunnylaw31_PteBack.j0 k a0 (Int.tmod (wrap64 (a0)) 96) (wrap64 (Int.tmod a1 8)) bt249.1 true))) else (gunnylaw31_PteBack.j0 k a0 (Int.tmod (wrap64 (a0)) 96) (wrap64 (Int.tmod a1 8)) bt249.1 true)))) else (if (bt258.2 != false) = true then (gunnylaw31_PteBack.j0 k a0 (Int.tmod (wrap64 (a0)) 96) (wrap64 (Int.tmod a1 8)) bt249.1 true) else (if bt256.1 = bt249.1 then ((pte_Clear.f k bt256.1).bind fun t264 => (if t264 = bt249.1 then ((pte_Number.f k bt256.1).bind fun t265 => (if t265 = (Int.tmod (wrap64 (a0)) 96) then ((pte_Perm.f k bt256.1).bind fun t266 => (if t266 = (wrap64 (Int.tmod a1 8)) then ((pte_Kind.f k bt256.1).bind fun t267 => (gunnylaw31_PteBack.j0 k a0 (Int.tmod (wrap64 (a0)) 96) (wrap64 (Int.tmod a1 8)) bt249.1 (t267 != 2))) else (gunnylaw31_PteBack.j0 k a0 (Int.tmod (wrap64 (a0)) 96) (wrap64 (Int.tmod a1 8)) bt249.1 true))) else (gunnylaw31_PteBack.j0 k a0 (Int.tmod (wrap64 (a0)) 96) (wrap64 (Int.tmod a1 8)) bt249.1 true))) else (gunnylaw31_PteBack.j0 k a0 (Int.tmod (wrap64 (a0)) 96) (wrap64 (Int.tmod a1 8)) bt249.1 true))) else (gunnylaw31_PteBack.j0 k a0 (Int.tmod (wrap64 (a0)) 96) (wrap64 (Int.tmod a1 8)) bt249.1 true)))))))) else (none)) else ((pte_May.f (wrap64 (Int.tmod a1 8))).bind fun t251 => (if t251 = true then (some false) else (if bt249.1 = 0 then ((gunnylaw31_lives.f k).bind fun t252 => (some t252)) else (some false)))))) = some r := h
  clear h
  replace H := Option.bind_eq_some_iff.mp H
  obtain ⟨⟨t249, t250⟩, A40, H⟩ := H
  replace H : (if t250 = true then (if 0 ≤ (Int.tmod a2 3) then ((pte_Touch.f k t249 (([shl .i64 1 (Int.tmod a2 3)] : List Int))).bind fun bt256 => ((pte_Flags.f k bt256.1).bind fun bt258 => (if (bt256.2 != ((Go.bits .and .i64 (wrap64 (Int.tmod a1 8)) (shl .i64 1 (Int.tmod a2 3))) != 0)) = true then (gunnylaw31_PteBack.j0 k a0 (Int.tmod (wrap64 (a0)) 96) (wrap64 (Int.tmod a1 8)) t249 true) else (if (bt258.1 != bt256.2) = true then (gunnylaw31_PteBack.j0 k a0 (Int.tmod (wrap64 (a0)) 96) (wrap64 (Int.tmod a1 8)) t249 true) else (if bt256.2 = true then (if (bt258.2 != ((shl .i64 1 (Int.tmod a2 3)) == 2)) = true then (gunnylaw31_PteBack.j0 k a0 (Int.tmod (wrap64 (a0)) 96) (wrap64 (Int.tmod a1 8)) t249 true) else ((pte_Clear.f k bt256.1).bind fun t260 => (if t260 = t249 then ((pte_Number.f k bt256.1).bind fun t261 => (if t261 = (Int.tmod (wrap64 (a0)) 96) then ((pte_Perm.f k bt256.1).bind fun t262 => (if t262 = (wrap64 (Int.tmod a1 8)) then ((pte_Kind.f k bt256.1).bind fun t263 => (gunnylaw31_PteBack.j0 k a0 (Int.tmod (wrap64 (a0)) 96) (wrap64 (Int.tmod a1 8)) t249 (t263 != 2))) else (gunnylaw31_PteBack.j0 k a0 (Int.tmod (wrap64 (a0)) 96) (wrap64 (Int.tmod a1 8)) t249 true))) else (gunnylaw31_PteBack.j0 k a0 (Int.tmod (wrap64 (a0)) 96) (wrap64 (Int.tmod a1 8)) t249 true))) else (gunnylaw31_PteBack.j0 k a0 (Int.tmod (wrap64 (a0)) 96) (wrap64 (Int.tmod a1 8)) t249 true)))) else (if (bt258.2 != false) = true then (gunnylaw31_PteBack.j0 k a0 (Int.tmod (wrap64 (a0)) 96) (wrap64 (Int.tmod a1 8)) t249 true) else (if bt256.1 = t249 then ((pte_Clear.f k bt256.1).bind fun t264 => (if t264 = t249 then ((pte_Number.f k bt256.1).bind fun t265 => (if t265 = (Int.tmod (wrap64 (a0)) 96) then ((pte_Perm.f k bt256.1).bind fun t266 => (if t266 = (wrap64 (Int.tmod a1 8)) then ((pte_Kind.f k bt256.1).bind fun t267 => (gunnylaw31_PteBack.j0 k a0 (Int.tmod (wrap64 (a0)) 96) (wrap64 (Int.tmod a1 8)) t249 (t267 != 2))) else (gunnylaw31_PteBack.j0 k a0 (Int.tmod (wrap64 (a0)) 96) (wrap64 (Int.tmod a1 8)) t249 true))) else (gunnylaw31_PteBack.j0 k a0 (Int.tmod (wrap64 (a0)) 96) (wrap64 (Int.tmod a1 8)) t249 true))) else (gunnylaw31_PteBack.j0 k a0 (Int.tmod (wrap64 (a0)) 96) (wrap64 (Int.tmod a1 8)) t249 true))) else (gunnylaw31_PteBack.j0 k a0 (Int.tmod (wrap64 (a0)) 96) (wrap64 (Int.tmod a1 8)) t249 true)))))))) else (none)) else ((pte_May.f (wrap64 (Int.tmod a1 8))).bind fun t251 => (if t251 = true then (some false) else (if t249 = 0 then ((gunnylaw31_lives.f k).bind fun t252 => (some t252)) else (some false))))) = some r := H
  have A4 := Aside0.mk A40
  clear A40
  by_cases c5 : t250 = true
  · subst c5
    have H1 : (if 0 ≤ (Int.tmod a2 3) then ((pte_Touch.f k t249 (([shl .i64 1 (Int.tmod a2 3)] : List Int))).bind fun bt256 => ((pte_Flags.f k bt256.1).bind fun bt258 => (if (bt256.2 != ((Go.bits .and .i64 (wrap64 (Int.tmod a1 8)) (shl .i64 1 (Int.tmod a2 3))) != 0)) = true then (gunnylaw31_PteBack.j0 k a0 (Int.tmod (wrap64 (a0)) 96) (wrap64 (Int.tmod a1 8)) t249 true) else (if (bt258.1 != bt256.2) = true then (gunnylaw31_PteBack.j0 k a0 (Int.tmod (wrap64 (a0)) 96) (wrap64 (Int.tmod a1 8)) t249 true) else (if bt256.2 = true then (if (bt258.2 != ((shl .i64 1 (Int.tmod a2 3)) == 2)) = true then (gunnylaw31_PteBack.j0 k a0 (Int.tmod (wrap64 (a0)) 96) (wrap64 (Int.tmod a1 8)) t249 true) else ((pte_Clear.f k bt256.1).bind fun t260 => (if t260 = t249 then ((pte_Number.f k bt256.1).bind fun t261 => (if t261 = (Int.tmod (wrap64 (a0)) 96) then ((pte_Perm.f k bt256.1).bind fun t262 => (if t262 = (wrap64 (Int.tmod a1 8)) then ((pte_Kind.f k bt256.1).bind fun t263 => (gunnylaw31_PteBack.j0 k a0 (Int.tmod (wrap64 (a0)) 96) (wrap64 (Int.tmod a1 8)) t249 (t263 != 2))) else (gunnylaw31_PteBack.j0 k a0 (Int.tmod (wrap64 (a0)) 96) (wrap64 (Int.tmod a1 8)) t249 true))) else (gunnylaw31_PteBack.j0 k a0 (Int.tmod (wrap64 (a0)) 96) (wrap64 (Int.tmod a1 8)) t249 true))) else (gunnylaw31_PteBack.j0 k a0 (Int.tmod (wrap64 (a0)) 96) (wrap64 (Int.tmod a1 8)) t249 true)))) else (if (bt258.2 != false) = true then (gunnylaw31_PteBack.j0 k a0 (Int.tmod (wrap64 (a0)) 96) (wrap64 (Int.tmod a1 8)) t249 true) else (if bt256.1 = t249 then ((pte_Clear.f k bt256.1).bind fun t264 => (if t264 = t249 then ((pte_Number.f k bt256.1).bind fun t265 => (if t265 = (Int.tmod (wrap64 (a0)) 96) then ((pte_Perm.f k bt256.1).bind fun t266 => (if t266 = (wrap64 (Int.tmod a1 8)) then ((pte_Kind.f k bt256.1).bind fun t267 => (gunnylaw31_PteBack.j0 k a0 (Int.tmod (wrap64 (a0)) 96) (wrap64 (Int.tmod a1 8)) t249 (t267 != 2))) else (gunnylaw31_PteBack.j0 k a0 (Int.tmod (wrap64 (a0)) 96) (wrap64 (Int.tmod a1 8)) t249 true))) else (gunnylaw31_PteBack.j0 k a0 (Int.tmod (wrap64 (a0)) 96) (wrap64 (Int.tmod a1 8)) t249 true))) else (gunnylaw31_PteBack.j0 k a0 (Int.tmod (wrap64 (a0)) 96) (wrap64 (Int.tmod a1 8)) t249 true))) else (gunnylaw31_PteBack.j0 k a0 (Int.tmod (wrap64 (a0)) 96) (wrap64 (Int.tmod a1 8)) t249 true)))))))) else (none)) = some r := by rw [if_pos rfl] at H; exact H
    clear H
    have H := H1
    clear H1
    obtain ⟨ji6, hji6⟩ : ∃ j_ : Int, (Int.tmod a2 3) = j_ := ⟨_, rfl⟩
    replace H : (if 0 ≤ (ji6) then ((pte_Touch.f k t249 (([shl .i64 1 (ji6)] : List Int))).bind fun bt256 => ((pte_Flags.f k bt256.1).bind fun bt258 => (if (bt256.2 != ((Go.bits .and .i64 (wrap64 (Int.tmod a1 8)) (shl .i64 1 (ji6))) != 0)) = true then (gunnylaw31_PteBack.j0 k a0 (Int.tmod (wrap64 (a0)) 96) (wrap64 (Int.tmod a1 8)) t249 true) else (if (bt258.1 != bt256.2) = true then (gunnylaw31_PteBack.j0 k a0 (Int.tmod (wrap64 (a0)) 96) (wrap64 (Int.tmod a1 8)) t249 true) else (if bt256.2 = true then (if (bt258.2 != ((shl .i64 1 (ji6)) == 2)) = true then (gunnylaw31_PteBack.j0 k a0 (Int.tmod (wrap64 (a0)) 96) (wrap64 (Int.tmod a1 8)) t249 true) else ((pte_Clear.f k bt256.1).bind fun t260 => (if t260 = t249 then ((pte_Number.f k bt256.1).bind fun t261 => (if t261 = (Int.tmod (wrap64 (a0)) 96) then ((pte_Perm.f k bt256.1).bind fun t262 => (if t262 = (wrap64 (Int.tmod a1 8)) then ((pte_Kind.f k bt256.1).bind fun t263 => (gunnylaw31_PteBack.j0 k a0 (Int.tmod (wrap64 (a0)) 96) (wrap64 (Int.tmod a1 8)) t249 (t263 != 2))) else (gunnylaw31_PteBack.j0 k a0 (Int.tmod (wrap64 (a0)) 96) (wrap64 (Int.tmod a1 8)) t249 true))) else (gunnylaw31_PteBack.j0 k a0 (Int.tmod (wrap64 (a0)) 96) (wrap64 (Int.tmod a1 8)) t249 true))) else (gunnylaw31_PteBack.j0 k a0 (Int.tmod (wrap64 (a0)) 96) (wrap64 (Int.tmod a1 8)) t249 true)))) else (if (bt258.2 != false) = true then (gunnylaw31_PteBack.j0 k a0 (Int.tmod (wrap64 (a0)) 96) (wrap64 (Int.tmod a1 8)) t249 true) else (if bt256.1 = t249 then ((pte_Clear.f k bt256.1).bind fun t264 => (if t264 = t249 then ((pte_Number.f k bt256.1).bind fun t265 => (if t265 = (Int.tmod (wrap64 (a0)) 96) then ((pte_Perm.f k bt256.1).bind fun t266 => (if t266 = (wrap64 (Int.tmod a1 8)) then ((pte_Kind.f k bt256.1).bind fun t267 => (gunnylaw31_PteBack.j0 k a0 (Int.tmod (wrap64 (a0)) 96) (wrap64 (Int.tmod a1 8)) t249 (t267 != 2))) else (gunnylaw31_PteBack.j0 k a0 (Int.tmod (wrap64 (a0)) 96) (wrap64 (Int.tmod a1 8)) t249 true))) else (gunnylaw31_PteBack.j0 k a0 (Int.tmod (wrap64 (a0)) 96) (wrap64 (Int.tmod a1 8)) t249 true))) else (gunnylaw31_PteBack.j0 k a0 (Int.tmod (wrap64 (a0)) 96) (wrap64 (Int.tmod a1 8)) t249 true))) else (gunnylaw31_PteBack.j0 k a0 (Int.tmod (wrap64 (a0)) 96) (wrap64 (Int.tmod a1 8)) t249 true)))))))) else (none)) = some r := by first | (rw [hji6] at H; exact H) | (simp only [hji6] at H ⊢; exact H)
    (try rw [hji6] at A4)
    by_cases c7 : 0 ≤ (ji6)
    · rw [if_pos c7] at H
      have c7b0 := eq_true c7
      have c7b1 : decide (0 ≤ (ji6)) = true := decide_eq_true c7
      clear c7
      obtain ⟨ji8, hji8⟩ : ∃ j_ : Int, (shl .i64 1 (ji6)) = j_ := ⟨_, rfl⟩
      replace H : ((pte_Touch.f k t249 (([ji8] : List Int))).bind fun bt256 => ((pte_Flags.f k bt256.1).bind fun bt258 => (if (bt256.2 != ((Go.bits .and .i64 (wrap64 (Int.tmod a1 8)) (ji8)) != 0)) = true then (gunnylaw31_PteBack.j0 k a0 (Int.tmod (wrap64 (a0)) 96) (wrap64 (Int.tmod a1 8)) t249 true) else (if (bt258.1 != bt256.2) = true then (gunnylaw31_PteBack.j0 k a0 (Int.tmod (wrap64 (a0)) 96) (wrap64 (Int.tmod a1 8)) t249 true) else (if bt256.2 = true then (if (bt258.2 != ((ji8) == 2)) = true then (gunnylaw31_PteBack.j0 k a0 (Int.tmod (wrap64 (a0)) 96) (wrap64 (Int.tmod a1 8)) t249 true) else ((pte_Clear.f k bt256.1).bind fun t260 => (if t260 = t249 then ((pte_Number.f k bt256.1).bind fun t261 => (if t261 = (Int.tmod (wrap64 (a0)) 96) then ((pte_Perm.f k bt256.1).bind fun t262 => (if t262 = (wrap64 (Int.tmod a1 8)) then ((pte_Kind.f k bt256.1).bind fun t263 => (gunnylaw31_PteBack.j0 k a0 (Int.tmod (wrap64 (a0)) 96) (wrap64 (Int.tmod a1 8)) t249 (t263 != 2))) else (gunnylaw31_PteBack.j0 k a0 (Int.tmod (wrap64 (a0)) 96) (wrap64 (Int.tmod a1 8)) t249 true))) else (gunnylaw31_PteBack.j0 k a0 (Int.tmod (wrap64 (a0)) 96) (wrap64 (Int.tmod a1 8)) t249 true))) else (gunnylaw31_PteBack.j0 k a0 (Int.tmod (wrap64 (a0)) 96) (wrap64 (Int.tmod a1 8)) t249 true)))) else (if (bt258.2 != false) = true then (gunnylaw31_PteBack.j0 k a0 (Int.tmod (wrap64 (a0)) 96) (wrap64 (Int.tmod a1 8)) t249 true) else (if bt256.1 = t249 then ((pte_Clear.f k bt256.1).bind fun t264 => (if t264 = t249 then ((pte_Number.f k bt256.1).bind fun t265 => (if t265 = (Int.tmod (wrap64 (a0)) 96) then ((pte_Perm.f k bt256.1).bind fun t266 => (if t266 = (wrap64 (Int.tmod a1 8)) then ((pte_Kind.f k bt256.1).bind fun t267 => (gunnylaw31_PteBack.j0 k a0 (Int.tmod (wrap64 (a0)) 96) (wrap64 (Int.tmod a1 8)) t249 (t267 != 2))) else (gunnylaw31_PteBack.j0 k a0 (Int.tmod (wrap64 (a0)) 96) (wrap64 (Int.tmod a1 8)) t249 true))) else (gunnylaw31_PteBack.j0 k a0 (Int.tmod (wrap64 (a0)) 96) (wrap64 (Int.tmod a1 8)) t249 true))) else (gunnylaw31_PteBack.j0 k a0 (Int.tmod (wrap64 (a0)) 96) (wrap64 (Int.tmod a1 8)) t249 true))) else (gunnylaw31_PteBack.j0 k a0 (Int.tmod (wrap64 (a0)) 96) (wrap64 (Int.tmod a1 8)) t249 true)))))))) = some r := by first | (rw [hji8] at H; exact H) | (simp only [hji8] at H ⊢; exact H)
      (try rw [hji8] at A4)
      have hji8_ : (IntKind.i64.wrap (1 * 2 ^ min (ji6).toNat 64)) = ji8 := hji8
      have hji8z : (ji6) ≤ 64 → (IntKind.i64.wrap (1 * 2 ^ (ji6).toNat)) = ji8 := shl_small hji8
      have hji8u : (IntKind.i64.wrap (2 ^ min (ji6).toNat 64)) = ji8 := by have h_ := hji8_; rw [Int.one_mul] at h_; exact h_
      have hji8v : (ji6) ≤ 64 → (IntKind.i64.wrap (2 ^ (ji6).toNat)) = ji8 := fun hle_ => by have h_ := hji8z hle_; rw [Int.one_mul] at h_; exact h_
      have hji8y : (wrap64 (1 * 2 ^ min (ji6).toNat 64)) = ji8 := (i64_w _).symm.trans hji8_
      have hji8x : (ji6) ≤ 64 → (wrap64 (1 * 2 ^ (ji6).toNat)) = ji8 := fun h_ => (i64_w _).symm.trans (hji8z h_)
      obtain ⟨y253, hy253⟩ : ∃ y_ : List Int, y_ = (([ji8] : List Int)) := ⟨_, rfl⟩
      replace H : ((pte_Touch.f k t249 y253).bind fun bt256 => ((pte_Flags.f k bt256.1).bind fun bt258 => (if (bt256.2 != ((Go.bits .and .i64 (wrap64 (Int.tmod a1 8)) (ji8)) != 0)) = true then (gunnylaw31_PteBack.j0 k a0 (Int.tmod (wrap64 (a0)) 96) (wrap64 (Int.tmod a1 8)) t249 true) else (if (bt258.1 != bt256.2) = true then (gunnylaw31_PteBack.j0 k a0 (Int.tmod (wrap64 (a0)) 96) (wrap64 (Int.tmod a1 8)) t249 true) else (if bt256.2 = true then (if (bt258.2 != ((ji8) == 2)) = true then (gunnylaw31_PteBack.j0 k a0 (Int.tmod (wrap64 (a0)) 96) (wrap64 (Int.tmod a1 8)) t249 true) else ((pte_Clear.f k bt256.1).bind fun t260 => (if t260 = t249 then ((pte_Number.f k bt256.1).bind fun t261 => (if t261 = (Int.tmod (wrap64 (a0)) 96) then ((pte_Perm.f k bt256.1).bind fun t262 => (if t262 = (wrap64 (Int.tmod a1 8)) then ((pte_Kind.f k bt256.1).bind fun t263 => (gunnylaw31_PteBack.j0 k a0 (Int.tmod (wrap64 (a0)) 96) (wrap64 (Int.tmod a1 8)) t249 (t263 != 2))) else (gunnylaw31_PteBack.j0 k a0 (Int.tmod (wrap64 (a0)) 96) (wrap64 (Int.tmod a1 8)) t249 true))) else (gunnylaw31_PteBack.j0 k a0 (Int.tmod (wrap64 (a0)) 96) (wrap64 (Int.tmod a1 8)) t249 true))) else (gunnylaw31_PteBack.j0 k a0 (Int.tmod (wrap64 (a0)) 96) (wrap64 (Int.tmod a1 8)) t249 true)))) else (if (bt258.2 != false) = true then (gunnylaw31_PteBack.j0 k a0 (Int.tmod (wrap64 (a0)) 96) (wrap64 (Int.tmod a1 8)) t249 true) else (if bt256.1 = t249 then ((pte_Clear.f k bt256.1).bind fun t264 => (if t264 = t249 then ((pte_Number.f k bt256.1).bind fun t265 => (if t265 = (Int.tmod (wrap64 (a0)) 96) then ((pte_Perm.f k bt256.1).bind fun t266 => (if t266 = (wrap64 (Int.tmod a1 8)) then ((pte_Kind.f k bt256.1).bind fun t267 => (gunnylaw31_PteBack.j0 k a0 (Int.tmod (wrap64 (a0)) 96) (wrap64 (Int.tmod a1 8)) t249 (t267 != 2))) else (gunnylaw31_PteBack.j0 k a0 (Int.tmod (wrap64 (a0)) 96) (wrap64 (Int.tmod a1 8)) t249 true))) else (gunnylaw31_PteBack.j0 k a0 (Int.tmod (wrap64 (a0)) 96) (wrap64 (Int.tmod a1 8)) t249 true))) else (gunnylaw31_PteBack.j0 k a0 (Int.tmod (wrap64 (a0)) 96) (wrap64 (Int.tmod a1 8)) t249 true))) else (gunnylaw31_PteBack.j0 k a0 (Int.tmod (wrap64 (a0)) 96) (wrap64 (Int.tmod a1 8)) t249 true)))))))) = some r := by first | (rw [hy253]; with_reducible exact H) | (have H2_ := (Option.bind_some _ _).symm.trans H; rw [hy253]; with_reducible exact H2_) | (have H2_ := (Option.bind_some _ _).symm.trans H; with_reducible exact H2_) | with_reducible exact H | (rw [hy253]; exact H) | exact H
      have Ny253 := Aside0.mk hy253
      clear hy253
      replace H := Option.bind_eq_some_iff.mp H
      obtain ⟨⟨t256, t257⟩, A90, H⟩ := H
      replace H : ((pte_Flags.f k t256).bind fun bt258 => (if (t257 != ((Go.bits .and .i64 (wrap64 (Int.tmod a1 8)) (ji8)) != 0)) = true then (gunnylaw31_PteBack.j0 k a0 (Int.tmod (wrap64 (a0)) 96) (wrap64 (Int.tmod a1 8)) t249 true) else (if (bt258.1 != t257) = true then (gunnylaw31_PteBack.j0 k a0 (Int.tmod (wrap64 (a0)) 96) (wrap64 (Int.tmod a1 8)) t249 true) else (if t257 = true then (if (bt258.2 != ((ji8) == 2)) = true then (gunnylaw31_PteBack.j0 k a0 (Int.tmod (wrap64 (a0)) 96) (wrap64 (Int.tmod a1 8)) t249 true) else ((pte_Clear.f k t256).bind fun t260 => (if t260 = t249 then ((pte_Number.f k t256).bind fun t261 => (if t261 = (Int.tmod (wrap64 (a0)) 96) then ((pte_Perm.f k t256).bind fun t262 => (if t262 = (wrap64 (Int.tmod a1 8)) then ((pte_Kind.f k t256).bind fun t263 => (gunnylaw31_PteBack.j0 k a0 (Int.tmod (wrap64 (a0)) 96) (wrap64 (Int.tmod a1 8)) t249 (t263 != 2))) else (gunnylaw31_PteBack.j0 k a0 (Int.tmod (wrap64 (a0)) 96) (wrap64 (Int.tmod a1 8)) t249 true))) else (gunnylaw31_PteBack.j0 k a0 (Int.tmod (wrap64 (a0)) 96) (wrap64 (Int.tmod a1 8)) t249 true))) else (gunnylaw31_PteBack.j0 k a0 (Int.tmod (wrap64 (a0)) 96) (wrap64 (Int.tmod a1 8)) t249 true)))) else (if (bt258.2 != false) = true then (gunnylaw31_PteBack.j0 k a0 (Int.tmod (wrap64 (a0)) 96) (wrap64 (Int.tmod a1 8)) t249 true) else (if t256 = t249 then ((pte_Clear.f k t256).bind fun t264 => (if t264 = t249 then ((pte_Number.f k t256).bind fun t265 => (if t265 = (Int.tmod (wrap64 (a0)) 96) then ((pte_Perm.f k t256).bind fun t266 => (if t266 = (wrap64 (Int.tmod a1 8)) then ((pte_Kind.f k t256).bind fun t267 => (gunnylaw31_PteBack.j0 k a0 (Int.tmod (wrap64 (a0)) 96) (wrap64 (Int.tmod a1 8)) t249 (t267 != 2))) else (gunnylaw31_PteBack.j0 k a0 (Int.tmod (wrap64 (a0)) 96) (wrap64 (Int.tmod a1 8)) t249 true))) else (gunnylaw31_PteBack.j0 k a0 (Int.tmod (wrap64 (a0)) 96) (wrap64 (Int.tmod a1 8)) t249 true))) else (gunnylaw31_PteBack.j0 k a0 (Int.tmod (wrap64 (a0)) 96) (wrap64 (Int.tmod a1 8)) t249 true))) else (gunnylaw31_PteBack.j0 k a0 (Int.tmod (wrap64 (a0)) 96) (wrap64 (Int.tmod a1 8)) t249 true))))))) = some r := H
      have A9 := Aside0.mk A90
      clear A90
      replace H := Option.bind_eq_some_iff.mp H
      obtain ⟨⟨t258, t259⟩, A100, H⟩ := H
      replace H : (if (t257 != ((Go.bits .and .i64 (wrap64 (Int.tmod a1 8)) (ji8)) != 0)) = true then (gunnylaw31_PteBack.j0 k a0 (Int.tmod (wrap64 (a0)) 96) (wrap64 (Int.tmod a1 8)) t249 true) else (if (t258 != t257) = true then (gunnylaw31_PteBack.j0 k a0 (Int.tmod (wrap64 (a0)) 96) (wrap64 (Int.tmod a1 8)) t249 true) else (if t257 = true then (if (t259 != ((ji8) == 2)) = true then (gunnylaw31_PteBack.j0 k a0 (Int.tmod (wrap64 (a0)) 96) (wrap64 (Int.tmod a1 8)) t249 true) else ((pte_Clear.f k t256).bind fun t260 => (if t260 = t249 then ((pte_Number.f k t256).bind fun t261 => (if t261 = (Int.tmod (wrap64 (a0)) 96) then ((pte_Perm.f k t256).bind fun t262 => (if t262 = (wrap64 (Int.tmod a1 8)) then ((pte_Kind.f k t256).bind fun t263 => (gunnylaw31_PteBack.j0 k a0 (Int.tmod (wrap64 (a0)) 96) (wrap64 (Int.tmod a1 8)) t249 (t263 != 2))) else (gunnylaw31_PteBack.j0 k a0 (Int.tmod (wrap64 (a0)) 96) (wrap64 (Int.tmod a1 8)) t249 true))) else (gunnylaw31_PteBack.j0 k a0 (Int.tmod (wrap64 (a0)) 96) (wrap64 (Int.tmod a1 8)) t249 true))) else (gunnylaw31_PteBack.j0 k a0 (Int.tmod (wrap64 (a0)) 96) (wrap64 (Int.tmod a1 8)) t249 true)))) else (if (t259 != false) = true then (gunnylaw31_PteBack.j0 k a0 (Int.tmod (wrap64 (a0)) 96) (wrap64 (Int.tmod a1 8)) t249 true) else (if t256 = t249 then ((pte_Clear.f k t256).bind fun t264 => (if t264 = t249 then ((pte_Number.f k t256).bind fun t265 => (if t265 = (Int.tmod (wrap64 (a0)) 96) then ((pte_Perm.f k t256).bind fun t266 => (if t266 = (wrap64 (Int.tmod a1 8)) then ((pte_Kind.f k t256).bind fun t267 => (gunnylaw31_PteBack.j0 k a0 (Int.tmod (wrap64 (a0)) 96) (wrap64 (Int.tmod a1 8)) t249 (t267 != 2))) else (gunnylaw31_PteBack.j0 k a0 (Int.tmod (wrap64 (a0)) 96) (wrap64 (Int.tmod a1 8)) t249 true))) else (gunnylaw31_PteBack.j0 k a0 (Int.tmod (wrap64 (a0)) 96) (wrap64 (Int.tmod a1 8)) t249 true))) else (gunnylaw31_PteBack.j0 k a0 (Int.tmod (wrap64 (a0)) 96) (wrap64 (Int.tmod a1 8)) t249 true))) else (gunnylaw31_PteBack.j0 k a0 (Int.tmod (wrap64 (a0)) 96) (wrap64 (Int.tmod a1 8)) t249 true)))))) = some r := H
      have A10 := Aside0.mk A100
      clear A100
      have HC11 := Aside0.mk H
      clear H
      go_enter Try.func6, Try.ntmps6
      go_upto_region 8 with (first | ((with_reducible refine gate_callee (f := 8) rfl ?_); refine goesL_ (some 29) rfl rfl Try.func8 (by kernel_rfl) rfl #[.int .i64 (Int.tmod (wrap64 (a0)) 96), .int .i64 (wrap64 (Int.tmod a1 8))] rfl (by (try simp only [List.map_toArray, List.map_cons, List.map_nil]); first | done | rfl | (simp only [List.length_drop, List.length_take]; rfl)) ?_; (with_reducible refine (pte_Page.calls k (Int.tmod (wrap64 (a0)) 96) (wrap64 (Int.tmod a1 8)) t249 true _ A4.out).mono ?_); rintro e w12 ⟨rfl, hb⟩; refine ⟨_, rfl, ?_⟩; have n0_ := Aside0.mk (below_step (by repeat (first | (with_reducible first | exact HB.out | apply below_alloc | apply pw_below_drewN | apply below_drew1) | exact HB.out)) hb); clear HB; have HB := n0_; clear n0_; (try clear hb); (try clear hb2); (try clear hk); (try clear hi)) | ((with_reducible refine gate_dst (N := 50) rfl ?_); refine Kd.R_lit (Kd.int .i64) _ 3 ?hg (N := 50) ?hd (xs := ([ji8] : List Int)) (inner := [.int .i64 ji8]) (ok := fun _ => True) (okp := fun _ => True) ?hr ?hp (fun _ hk => hk) trivial (Below.refl _ _) (Nat.le_refl _) (by simp) ?_; (case hd => rfl); (case hg => rfl); (case hr => first | (go_simp; done) | (go_simp; rfl)); (case hp => exact (Reps.one (show Kd.M (Kd.int .i64) _ _ _ ji8 [.int .i64 ji8] from rfl) (Reps.none _ _))); intro v254 w13 ho14 hb hg_ hnew_; clear hg_ hnew_; (first | rw [← Ny253.out] at ho14 | (simp only [Int.reduceToNat] at ho14; rw [← Ny253.out] at ho14)); have n0_ := Aside0.mk (Kd.R_lower ho14 (below_size (by repeat (first | (with_reducible first | exact HB.out | apply below_alloc | apply pw_below_drewN | apply below_drew1) | exact HB.out)))); have n1_ := Aside0.mk (below_step (by repeat (first | (with_reducible first | exact HB.out | apply below_alloc | apply pw_below_drewN | apply below_drew1) | exact HB.out)) hb); clear HB; have HO255 := n0_; have HB := n1_; clear n0_ n1_; clear hb ho14; obtain ⟨Ao15, co15, eo15⟩ := Kd.R_slice HO255.out; subst eo15) | ((with_reducible refine gate_callee (f := 14) rfl ?_); refine goesL_ (some 51) rfl rfl Try.func14 (by kernel_rfl) rfl #[.int .u64 t249, .slice Ao15 y253.length co15] rfl (by (try simp only [List.map_toArray, List.map_cons, List.map_nil]); first | done | rfl | (simp only [List.length_drop, List.length_take]; rfl)) ?_; (with_reducible refine (pte_Touch.calls k t249 _ _ y253 t256 t257 _ ?side1 ?side2 A9.out).mono ?_); (case side1 => repeat (first | exact (Kd.R_reads' HO255.out).2.2 | (with_reducible refine Kd.C_alloc ?_ _) | (with_reducible refine Kd.C_drewN ?_ _) | (with_reducible refine Kd.C_drew ?_))); (case side2 => exact (Kd.R_reads' HO255.out).2.1); rintro e w16 ⟨rfl, hb⟩; refine ⟨_, rfl, ?_⟩; have n0_ := Aside0.mk (Kd.R_below (by (with_reducible repeat (first | apply Kd.R_alloc | apply Kd.R_drewN | apply Kd.R_drew)); exact HO255.out) hb); have n1_ := Aside0.mk (below_step (by repeat (first | (with_reducible first | exact HB.out | apply below_alloc | apply pw_below_drewN | apply below_drew1) | exact HB.out)) hb); clear HO255; clear HB; have HO255 := n0_; have HB := n1_; clear n0_ n1_; (try clear hb); (try clear hb2); (try clear hk); (try clear hi)) | ((with_reducible refine gate_callee (f := 18) rfl ?_); refine goesL_ (some 56) rfl rfl Try.func18 (by kernel_rfl) rfl #[.int .u64 t256] rfl (by (try simp only [List.map_toArray, List.map_cons, List.map_nil]); first | done | rfl | (simp only [List.length_drop, List.length_take]; rfl)) ?_; (with_reducible refine (pte_Flags.calls k t256 t258 t259 _ A10.out).mono ?_); rintro e w17 ⟨rfl, hb⟩; refine ⟨_, rfl, ?_⟩; have n0_ := Aside0.mk (Kd.R_below (by (with_reducible repeat (first | apply Kd.R_alloc | apply Kd.R_drewN | apply Kd.R_drew)); exact HO255.out) hb); have n1_ := Aside0.mk (below_step (by repeat (first | (with_reducible first | exact HB.out | apply below_alloc | apply pw_below_drewN | apply below_drew1) | exact HB.out)) hb); clear HO255; clear HB; have HO255 := n0_; have HB := n1_; clear n0_ n1_; (try clear hb); (try clear hb2); (try clear hk); (try clear hi)))
      (try simp only [Act.put, List.setIfInBounds_toArray, List.set_cons_zero, List.set_cons_succ])
      go_cut [110] (fun v110 wc => ∃ (kq : Nat) (x110_10 : Bool), v110 = .bool x110_10 ∧ Aside0 (gunnylaw31_PteBack.j0 kq a0 (Int.tmod (wrap64 (a0)) 96) (wrap64 (Int.tmod a1 8)) t249 x110_10 = some r) ∧ Aside0 (kq ≤ k) ∧ Aside0 (Below w.heap.size w wc))
      case first =>
        have H := HC11.out
        clear HC11
        by_cases c18 : (t257 != ((Go.bits .and .i64 (wrap64 (Int.tmod a1 8)) (ji8)) != 0)) = true
        · rw [if_pos c18] at H
          have c18b0 : (t257 != ((Go.bits .and .i64 (wrap64 (Int.tmod a1 8)) (ji8)) != 0)) = true := c18
          (try (have c18b1 : decide (t257 = ((Go.bits .and .i64 (wrap64 (Int.tmod a1 8)) (ji8)) != 0)) = false := by simpa using c18))
          (try (have c18b2 : (t257 == ((Go.bits .and .i64 (wrap64 (Int.tmod a1 8)) (ji8)) != 0)) = false := by simpa using c18))
          (try (have c18b3 : ¬ (t257 = ((Go.bits .and .i64 (wrap64 (Int.tmod a1 8)) (ji8)) != 0)) := by simpa using c18))
          clear c18
          (first | rw [c18b0] | (simp only [i64_w, i32_w]; rw [c18b0]) | skip)
          have H' := Aside0.mk H
          clear H
          go_wp2
          go_meet
          case rel => exact ⟨_, (true), (by first | rfl | (simp; done) | (simp [*]; done)), H', ⟨by first | omega | exact Nat.le_refl _⟩, ⟨by repeat (first | (with_reducible first | exact HB.out | apply below_alloc | apply pw_below_drewN | apply below_drew1) | exact HB.out)⟩⟩
        · rw [if_neg c18] at H
          have c18b0 : (t257 != ((Go.bits .and .i64 (wrap64 (Int.tmod a1 8)) (ji8)) != 0)) = false := by simpa using c18
          (try (have c18b1 : decide (t257 = ((Go.bits .and .i64 (wrap64 (Int.tmod a1 8)) (ji8)) != 0)) = true := by simpa using c18))
          (try (have c18b2 : (t257 == ((Go.bits .and .i64 (wrap64 (Int.tmod a1 8)) (ji8)) != 0)) = true := by simpa using c18))
          clear c18
          (first | rw [c18b0] | (simp only [i64_w, i32_w]; rw [c18b0]) | skip)
          by_cases c19 : (t258 != t257) = true
          · rw [if_pos c19] at H
            have c19b0 : (t258 != t257) = true := c19
            (try (have c19b1 : decide (t258 = t257) = false := by simpa using c19))
            (try (have c19b2 : (t258 == t257) = false := by simpa using c19))
            (try (have c19b3 : ¬ (t258 = t257) := by simpa using c19))
            clear c19
            have H' := Aside0.mk H
            clear H
            go_wp2
            go_meet
            case rel => exact ⟨_, (true), (by first | rfl | (simp; done) | (simp [*]; done)), H', ⟨by first | omega | exact Nat.le_refl _⟩, ⟨by repeat (first | (with_reducible first | exact HB.out | apply below_alloc | apply pw_below_drewN | apply below_drew1) | exact HB.out)⟩⟩
          · rw [if_neg c19] at H
            have c19b0 : (t258 != t257) = false := by simpa using c19
            (try (have c19b1 : decide (t258 = t257) = true := by simpa using c19))
            (try (have c19b2 : (t258 == t257) = true := by simpa using c19))
            clear c19
            by_cases c20 : t257 = true
            · subst c20
              have H1 : (if (t259 != ((ji8) == 2)) = true then (gunnylaw31_PteBack.j0 k a0 (Int.tmod (wrap64 (a0)) 96) (wrap64 (Int.tmod a1 8)) t249 true) else ((pte_Clear.f k t256).bind fun t260 => (if t260 = t249 then ((pte_Number.f k t256).bind fun t261 => (if t261 = (Int.tmod (wrap64 (a0)) 96) then ((pte_Perm.f k t256).bind fun t262 => (if t262 = (wrap64 (Int.tmod a1 8)) then ((pte_Kind.f k t256).bind fun t263 => (gunnylaw31_PteBack.j0 k a0 (Int.tmod (wrap64 (a0)) 96) (wrap64 (Int.tmod a1 8)) t249 (t263 != 2))) else (gunnylaw31_PteBack.j0 k a0 (Int.tmod (wrap64 (a0)) 96) (wrap64 (Int.tmod a1 8)) t249 true))) else (gunnylaw31_PteBack.j0 k a0 (Int.tmod (wrap64 (a0)) 96) (wrap64 (Int.tmod a1 8)) t249 true))) else (gunnylaw31_PteBack.j0 k a0 (Int.tmod (wrap64 (a0)) 96) (wrap64 (Int.tmod a1 8)) t249 true)))) = some r := by rw [if_pos rfl] at H; exact H
              clear H
              have H := H1
              clear H1
              by_cases c21 : (t259 != ((ji8) == 2)) = true
              · rw [if_pos c21] at H
                have c21b0 : (t259 != ((ji8) == 2)) = true := c21
                (try (have c21b1 : decide (t259 = ((ji8) == 2)) = false := by simpa using c21))
                (try (have c21b2 : (t259 == ((ji8) == 2)) = false := by simpa using c21))
                (try (have c21b3 : ¬ (t259 = ((ji8) == 2)) := by simpa using c21))
                clear c21
                have H' := Aside0.mk H
                clear H
                go_wp2
                go_meet
                case rel => exact ⟨_, (true), (by first | rfl | (simp; done) | (simp [*]; done)), H', ⟨by first | omega | exact Nat.le_refl _⟩, ⟨by repeat (first | (with_reducible first | exact HB.out | apply below_alloc | apply pw_below_drewN | apply below_drew1) | exact HB.out)⟩⟩
              · rw [if_neg c21] at H
                have c21b0 : (t259 != ((ji8) == 2)) = false := by simpa using c21
                (try (have c21b1 : decide (t259 = ((ji8) == 2)) = true := by simpa using c21))
                (try (have c21b2 : (t259 == ((ji8) == 2)) = true := by simpa using c21))
                clear c21
                replace H := Option.bind_eq_some_iff.mp H
                obtain ⟨t260, A220, H⟩ := H
                replace H : (if t260 = t249 then ((pte_Number.f k t256).bind fun t261 => (if t261 = (Int.tmod (wrap64 (a0)) 96) then ((pte_Perm.f k t256).bind fun t262 => (if t262 = (wrap64 (Int.tmod a1 8)) then ((pte_Kind.f k t256).bind fun t263 => (gunnylaw31_PteBack.j0 k a0 (Int.tmod (wrap64 (a0)) 96) (wrap64 (Int.tmod a1 8)) t249 (t263 != 2))) else (gunnylaw31_PteBack.j0 k a0 (Int.tmod (wrap64 (a0)) 96) (wrap64 (Int.tmod a1 8)) t249 true))) else (gunnylaw31_PteBack.j0 k a0 (Int.tmod (wrap64 (a0)) 96) (wrap64 (Int.tmod a1 8)) t249 true))) else (gunnylaw31_PteBack.j0 k a0 (Int.tmod (wrap64 (a0)) 96) (wrap64 (Int.tmod a1 8)) t249 true)) = some r := H
                have A22 := Aside0.mk A220
                clear A220
                by_cases c23 : t260 = t249
                · rw [if_pos c23] at H
                  have c23b0 : (t260 == t249) = true := beq_iff_eq.mpr c23
                  have c23b1 : (t260 != t249) = false := bne_eq_false_iff_eq.mpr c23
                  clear c23
                  replace H := Option.bind_eq_some_iff.mp H
                  obtain ⟨t261, A240, H⟩ := H
                  replace H : (if t261 = (Int.tmod (wrap64 (a0)) 96) then ((pte_Perm.f k t256).bind fun t262 => (if t262 = (wrap64 (Int.tmod a1 8)) then ((pte_Kind.f k t256).bind fun t263 => (gunnylaw31_PteBack.j0 k a0 (Int.tmod (wrap64 (a0)) 96) (wrap64 (Int.tmod a1 8)) t249 (t263 != 2))) else (gunnylaw31_PteBack.j0 k a0 (Int.tmod (wrap64 (a0)) 96) (wrap64 (Int.tmod a1 8)) t249 true))) else (gunnylaw31_PteBack.j0 k a0 (Int.tmod (wrap64 (a0)) 96) (wrap64 (Int.tmod a1 8)) t249 true)) = some r := H
                  have A24 := Aside0.mk A240
                  clear A240
                  by_cases c25 : t261 = (Int.tmod (wrap64 (a0)) 96)
                  · rw [if_pos c25] at H
                    have c25b0 : (t261 == (Int.tmod (wrap64 (a0)) 96)) = true := beq_iff_eq.mpr c25
                    have c25b1 : (t261 != (Int.tmod (wrap64 (a0)) 96)) = false := bne_eq_false_iff_eq.mpr c25
                    clear c25
                    replace H := Option.bind_eq_some_iff.mp H
                    obtain ⟨t262, A260, H⟩ := H
                    replace H : (if t262 = (wrap64 (Int.tmod a1 8)) then ((pte_Kind.f k t256).bind fun t263 => (gunnylaw31_PteBack.j0 k a0 (Int.tmod (wrap64 (a0)) 96) (wrap64 (Int.tmod a1 8)) t249 (t263 != 2))) else (gunnylaw31_PteBack.j0 k a0 (Int.tmod (wrap64 (a0)) 96) (wrap64 (Int.tmod a1 8)) t249 true)) = some r := H
                    have A26 := Aside0.mk A260
                    clear A260
                    by_cases c27 : t262 = (wrap64 (Int.tmod a1 8))
                    · rw [if_pos c27] at H
                      have c27b0 : (t262 == (wrap64 (Int.tmod a1 8))) = true := beq_iff_eq.mpr c27
                      have c27b1 : (t262 != (wrap64 (Int.tmod a1 8))) = false := bne_eq_false_iff_eq.mpr c27
                      clear c27
                      replace H := Option.bind_eq_some_iff.mp H
                      obtain ⟨t263, A280, H⟩ := H
                      replace H : (gunnylaw31_PteBack.j0 k a0 (Int.tmod (wrap64 (a0)) 96) (wrap64 (Int.tmod a1 8)) t249 (t263 != 2)) = some r := H
                      have A28 := Aside0.mk A280
                      clear A280
                      have H' := Aside0.mk H
                      clear H
                      go_wp2_with (first | (go_at_call 23; (with_reducible refine (pte_Clear.calls k t256 t260 _ A22.out).mono ?_); rintro e w29 ⟨rfl, hb⟩; have n0_ := Aside0.mk (Kd.R_below (by (with_reducible repeat (first | apply Kd.R_alloc | apply Kd.R_drewN | apply Kd.R_drew)); exact HO255.out) hb); have n1_ := Aside0.mk (below_step (by repeat (first | (with_reducible first | exact HB.out | apply below_alloc | apply pw_below_drewN | apply below_drew1) | exact HB.out)) hb); clear HO255; clear HB; have HO255 := n0_; have HB := n1_; clear n0_ n1_; (try clear hb); (try clear hb2); (try clear hk); (try clear hi)) | (go_at_call 20; (with_reducible refine (pte_Number.calls k t256 t261 _ A24.out).mono ?_); rintro e w30 ⟨rfl, hb⟩; have n0_ := Aside0.mk (Kd.R_below (by (with_reducible repeat (first | apply Kd.R_alloc | apply Kd.R_drewN | apply Kd.R_drew)); exact HO255.out) hb); have n1_ := Aside0.mk (below_step (by repeat (first | (with_reducible first | exact HB.out | apply below_alloc | apply pw_below_drewN | apply below_drew1) | exact HB.out)) hb); clear HO255; clear HB; have HO255 := n0_; have HB := n1_; clear n0_ n1_; (try clear hb); (try clear hb2); (try clear hk); (try clear hi)) | (go_at_call 21; (with_reducible refine (pte_Perm.calls k t256 t262 _ A26.out).mono ?_); rintro e w31 ⟨rfl, hb⟩; have n0_ := Aside0.mk (Kd.R_below (by (with_reducible repeat (first | apply Kd.R_alloc | apply Kd.R_drewN | apply Kd.R_drew)); exact HO255.out) hb); have n1_ := Aside0.mk (below_step (by repeat (first | (with_reducible first | exact HB.out | apply below_alloc | apply pw_below_drewN | apply below_drew1) | exact HB.out)) hb); clear HO255; clear HB; have HO255 := n0_; have HB := n1_; clear n0_ n1_; (try clear hb); (try clear hb2); (try clear hk); (try clear hi)) | (go_at_call 19; (with_reducible refine (pte_Kind.calls k t256 t263 _ A28.out).mono ?_); rintro e w32 ⟨rfl, hb⟩; have n0_ := Aside0.mk (Kd.R_below (by (with_reducible repeat (first | apply Kd.R_alloc | apply Kd.R_drewN | apply Kd.R_drew)); exact HO255.out) hb); have n1_ := Aside0.mk (below_step (by repeat (first | (with_reducible first | exact HB.out | apply below_alloc | apply pw_below_drewN | apply below_drew1) | exact HB.out)) hb); clear HO255; clear HB; have HO255 := n0_; have HB := n1_; clear n0_ n1_; (try clear hb); (try clear hb2); (try clear hk); (try clear hi)))
                      go_meet
                      case rel => exact ⟨_, ((t263 != 2)), (by first | rfl | (simp; done) | (simp [*]; done)), H', ⟨by first | omega | exact Nat.le_refl _⟩, ⟨by repeat (first | (with_reducible first | exact HB.out | apply below_alloc | apply pw_below_drewN | apply below_drew1) | exact HB.out)⟩⟩
                    · rw [if_neg c27] at H
                      have c27b0 : (t262 == (wrap64 (Int.tmod a1 8))) = false := beq_eq_false_iff_ne.mpr c27
                      have c27b1 : (t262 != (wrap64 (Int.tmod a1 8))) = true := bne_iff_ne.mpr c27
                      have H' := Aside0.mk H
                      clear H
                      go_wp2_with (first | (go_at_call 23; (with_reducible refine (pte_Clear.calls k t256 t260 _ A22.out).mono ?_); rintro e w33 ⟨rfl, hb⟩; have n0_ := Aside0.mk (Kd.R_below (by (with_reducible repeat (first | apply Kd.R_alloc | apply Kd.R_drewN | apply Kd.R_drew)); exact HO255.out) hb); have n1_ := Aside0.mk (below_step (by repeat (first | (with_reducible first | exact HB.out | apply below_alloc | apply pw_below_drewN | apply below_drew1) | exact HB.out)) hb); clear HO255; clear HB; have HO255 := n0_; have HB := n1_; clear n0_ n1_; (try clear hb); (try clear hb2); (try clear hk); (try clear hi)) | (go_at_call 20; (with_reducible refine (pte_Number.calls k t256 t261 _ A24.out).mono ?_); rintro e w34 ⟨rfl, hb⟩; have n0_ := Aside0.mk (Kd.R_below (by (with_reducible repeat (first | apply Kd.R_alloc | apply Kd.R_drewN | apply Kd.R_drew)); exact HO255.out) hb); have n1_ := Aside0.mk (below_step (by repeat (first | (with_reducible first | exact HB.out | apply below_alloc | apply pw_below_drewN | apply below_drew1) | exact HB.out)) hb); clear HO255; clear HB; have HO255 := n0_; have HB := n1_; clear n0_ n1_; (try clear hb); (try clear hb2); (try clear hk); (try clear hi)) | (go_at_call 21; (with_reducible refine (pte_Perm.calls k t256 t262 _ A26.out).mono ?_); rintro e w35 ⟨rfl, hb⟩; have n0_ := Aside0.mk (Kd.R_below (by (with_reducible repeat (first | apply Kd.R_alloc | apply Kd.R_drewN | apply Kd.R_drew)); exact HO255.out) hb); have n1_ := Aside0.mk (below_step (by repeat (first | (with_reducible first | exact HB.out | apply below_alloc | apply pw_below_drewN | apply below_drew1) | exact HB.out)) hb); clear HO255; clear HB; have HO255 := n0_; have HB := n1_; clear n0_ n1_; (try clear hb); (try clear hb2); (try clear hk); (try clear hi)))
                      go_meet
                      case rel => exact ⟨_, (true), (by first | rfl | (simp; done) | (simp [*]; done)), H', ⟨by first | omega | exact Nat.le_refl _⟩, ⟨by repeat (first | (with_reducible first | exact HB.out | apply below_alloc | apply pw_below_drewN | apply below_drew1) | exact HB.out)⟩⟩
                  · rw [if_neg c25] at H
                    have c25b0 : (t261 == (Int.tmod (wrap64 (a0)) 96)) = false := beq_eq_false_iff_ne.mpr c25
                    have c25b1 : (t261 != (Int.tmod (wrap64 (a0)) 96)) = true := bne_iff_ne.mpr c25
                    have H' := Aside0.mk H
                    clear H
                    go_wp2_with (first | (go_at_call 23; (with_reducible refine (pte_Clear.calls k t256 t260 _ A22.out).mono ?_); rintro e w36 ⟨rfl, hb⟩; have n0_ := Aside0.mk (Kd.R_below (by (with_reducible repeat (first | apply Kd.R_alloc | apply Kd.R_drewN | apply Kd.R_drew)); exact HO255.out) hb); have n1_ := Aside0.mk (below_step (by repeat (first | (with_reducible first | exact HB.out | apply below_alloc | apply pw_below_drewN | apply below_drew1) | exact HB.out)) hb); clear HO255; clear HB; have HO255 := n0_; have HB := n1_; clear n0_ n1_; (try clear hb); (try clear hb2); (try clear hk); (try clear hi)) | (go_at_call 20; (with_reducible refine (pte_Number.calls k t256 t261 _ A24.out).mono ?_); rintro e w37 ⟨rfl, hb⟩; have n0_ := Aside0.mk (Kd.R_below (by (with_reducible repeat (first | apply Kd.R_alloc | apply Kd.R_drewN | apply Kd.R_drew)); exact HO255.out) hb); have n1_ := Aside0.mk (below_step (by repeat (first | (with_reducible first | exact HB.out | apply below_alloc | apply pw_below_drewN | apply below_drew1) | exact HB.out)) hb); clear HO255; clear HB; have HO255 := n0_; have HB := n1_; clear n0_ n1_; (try clear hb); (try clear hb2); (try clear hk); (try clear hi)))
                    go_meet
                    case rel => exact ⟨_, (true), (by first | rfl | (simp; done) | (simp [*]; done)), H', ⟨by first | omega | exact Nat.le_refl _⟩, ⟨by repeat (first | (with_reducible first | exact HB.out | apply below_alloc | apply pw_below_drewN | apply below_drew1) | exact HB.out)⟩⟩
                · rw [if_neg c23] at H
                  have c23b0 : (t260 == t249) = false := beq_eq_false_iff_ne.mpr c23
                  have c23b1 : (t260 != t249) = true := bne_iff_ne.mpr c23
                  have H' := Aside0.mk H
                  clear H
                  go_wp2_with (first | (go_at_call 23; (with_reducible refine (pte_Clear.calls k t256 t260 _ A22.out).mono ?_); rintro e w38 ⟨rfl, hb⟩; have n0_ := Aside0.mk (Kd.R_below (by (with_reducible repeat (first | apply Kd.R_alloc | apply Kd.R_drewN | apply Kd.R_drew)); exact HO255.out) hb); have n1_ := Aside0.mk (below_step (by repeat (first | (with_reducible first | exact HB.out | apply below_alloc | apply pw_below_drewN | apply below_drew1) | exact HB.out)) hb); clear HO255; clear HB; have HO255 := n0_; have HB := n1_; clear n0_ n1_; (try clear hb); (try clear hb2); (try clear hk); (try clear hi)))
                  go_meet
                  case rel => exact ⟨_, (true), (by first | rfl | (simp; done) | (simp [*]; done)), H', ⟨by first | omega | exact Nat.le_refl _⟩, ⟨by repeat (first | (with_reducible first | exact HB.out | apply below_alloc | apply pw_below_drewN | apply below_drew1) | exact HB.out)⟩⟩
            · replace c20 := Bool.eq_false_iff.mpr c20
              subst c20
              have H1 : (if (t259 != false) = true then (gunnylaw31_PteBack.j0 k a0 (Int.tmod (wrap64 (a0)) 96) (wrap64 (Int.tmod a1 8)) t249 true) else (if t256 = t249 then ((pte_Clear.f k t256).bind fun t264 => (if t264 = t249 then ((pte_Number.f k t256).bind fun t265 => (if t265 = (Int.tmod (wrap64 (a0)) 96) then ((pte_Perm.f k t256).bind fun t266 => (if t266 = (wrap64 (Int.tmod a1 8)) then ((pte_Kind.f k t256).bind fun t267 => (gunnylaw31_PteBack.j0 k a0 (Int.tmod (wrap64 (a0)) 96) (wrap64 (Int.tmod a1 8)) t249 (t267 != 2))) else (gunnylaw31_PteBack.j0 k a0 (Int.tmod (wrap64 (a0)) 96) (wrap64 (Int.tmod a1 8)) t249 true))) else (gunnylaw31_PteBack.j0 k a0 (Int.tmod (wrap64 (a0)) 96) (wrap64 (Int.tmod a1 8)) t249 true))) else (gunnylaw31_PteBack.j0 k a0 (Int.tmod (wrap64 (a0)) 96) (wrap64 (Int.tmod a1 8)) t249 true))) else (gunnylaw31_PteBack.j0 k a0 (Int.tmod (wrap64 (a0)) 96) (wrap64 (Int.tmod a1 8)) t249 true))) = some r := by rw [if_neg (show ¬ (false = true) by decide)] at H; exact H
              clear H
              have H := H1
              clear H1
              by_cases c39 : (t259 != false) = true
              · rw [if_pos c39] at H
                have c39b0 : (t259 != false) = true := c39
                (try (have c39b1 : decide (t259 = false) = false := by simpa using c39))
                (try (have c39b2 : (t259 == false) = false := by simpa using c39))
                (try (have c39b3 : ¬ (t259 = false) := by simpa using c39))
                clear c39
                have ez_c39 : t259 = true := by simpa using c39b0
                subst ez_c39
                have H' := Aside0.mk H
                clear H
                go_wp2
                go_meet
                case rel => exact ⟨_, (true), (by first | rfl | (simp; done) | (simp [*]; done)), H', ⟨by first | omega | exact Nat.le_refl _⟩, ⟨by repeat (first | (with_reducible first | exact HB.out | apply below_alloc | apply pw_below_drewN | apply below_drew1) | exact HB.out)⟩⟩
              · rw [if_neg c39] at H
                have c39b0 : (t259 != false) = false := by simpa using c39
                (try (have c39b1 : decide (t259 = false) = true := by simpa using c39))
                (try (have c39b2 : (t259 == false) = true := by simpa using c39))
                clear c39
                by_cases c40 : t256 = t249
                · rw [if_pos c40] at H
                  have c40b0 : (t256 == t249) = true := beq_iff_eq.mpr c40
                  have c40b1 : (t256 != t249) = false := bne_eq_false_iff_eq.mpr c40
                  clear c40
                  replace H := Option.bind_eq_some_iff.mp H
                  obtain ⟨t264, A410, H⟩ := H
                  replace H : (if t264 = t249 then ((pte_Number.f k t256).bind fun t265 => (if t265 = (Int.tmod (wrap64 (a0)) 96) then ((pte_Perm.f k t256).bind fun t266 => (if t266 = (wrap64 (Int.tmod a1 8)) then ((pte_Kind.f k t256).bind fun t267 => (gunnylaw31_PteBack.j0 k a0 (Int.tmod (wrap64 (a0)) 96) (wrap64 (Int.tmod a1 8)) t249 (t267 != 2))) else (gunnylaw31_PteBack.j0 k a0 (Int.tmod (wrap64 (a0)) 96) (wrap64 (Int.tmod a1 8)) t249 true))) else (gunnylaw31_PteBack.j0 k a0 (Int.tmod (wrap64 (a0)) 96) (wrap64 (Int.tmod a1 8)) t249 true))) else (gunnylaw31_PteBack.j0 k a0 (Int.tmod (wrap64 (a0)) 96) (wrap64 (Int.tmod a1 8)) t249 true)) = some r := H
                  have A41 := Aside0.mk A410
                  clear A410
                  by_cases c42 : t264 = t249
                  · rw [if_pos c42] at H
                    have c42b0 : (t264 == t249) = true := beq_iff_eq.mpr c42
                    have c42b1 : (t264 != t249) = false := bne_eq_false_iff_eq.mpr c42
                    clear c42
                    replace H := Option.bind_eq_some_iff.mp H
                    obtain ⟨t265, A430, H⟩ := H
                    replace H : (if t265 = (Int.tmod (wrap64 (a0)) 96) then ((pte_Perm.f k t256).bind fun t266 => (if t266 = (wrap64 (Int.tmod a1 8)) then ((pte_Kind.f k t256).bind fun t267 => (gunnylaw31_PteBack.j0 k a0 (Int.tmod (wrap64 (a0)) 96) (wrap64 (Int.tmod a1 8)) t249 (t267 != 2))) else (gunnylaw31_PteBack.j0 k a0 (Int.tmod (wrap64 (a0)) 96) (wrap64 (Int.tmod a1 8)) t249 true))) else (gunnylaw31_PteBack.j0 k a0 (Int.tmod (wrap64 (a0)) 96) (wrap64 (Int.tmod a1 8)) t249 true)) = some r := H
                    have A43 := Aside0.mk A430
                    clear A430
                    by_cases c44 : t265 = (Int.tmod (wrap64 (a0)) 96)
                    · rw [if_pos c44] at H
                      have c44b0 : (t265 == (Int.tmod (wrap64 (a0)) 96)) = true := beq_iff_eq.mpr c44
                      have c44b1 : (t265 != (Int.tmod (wrap64 (a0)) 96)) = false := bne_eq_false_iff_eq.mpr c44
                      clear c44
                      replace H := Option.bind_eq_some_iff.mp H
                      obtain ⟨t266, A450, H⟩ := H
                      replace H : (if t266 = (wrap64 (Int.tmod a1 8)) then ((pte_Kind.f k t256).bind fun t267 => (gunnylaw31_PteBack.j0 k a0 (Int.tmod (wrap64 (a0)) 96) (wrap64 (Int.tmod a1 8)) t249 (t267 != 2))) else (gunnylaw31_PteBack.j0 k a0 (Int.tmod (wrap64 (a0)) 96) (wrap64 (Int.tmod a1 8)) t249 true)) = some r := H
                      have A45 := Aside0.mk A450
                      clear A450
                      by_cases c46 : t266 = (wrap64 (Int.tmod a1 8))
                      · rw [if_pos c46] at H
                        have c46b0 : (t266 == (wrap64 (Int.tmod a1 8))) = true := beq_iff_eq.mpr c46
                        have c46b1 : (t266 != (wrap64 (Int.tmod a1 8))) = false := bne_eq_false_iff_eq.mpr c46
                        clear c46
                        replace H := Option.bind_eq_some_iff.mp H
                        obtain ⟨t267, A470, H⟩ := H
                        replace H : (gunnylaw31_PteBack.j0 k a0 (Int.tmod (wrap64 (a0)) 96) (wrap64 (Int.tmod a1 8)) t249 (t267 != 2)) = some r := H
                        have A47 := Aside0.mk A470
                        clear A470
                        have H' := Aside0.mk H
                        clear H
                        go_wp2_with (first | (go_at_call 23; (with_reducible refine (pte_Clear.calls k t256 t264 _ A41.out).mono ?_); rintro e w48 ⟨rfl, hb⟩; have n0_ := Aside0.mk (Kd.R_below (by (with_reducible repeat (first | apply Kd.R_alloc | apply Kd.R_drewN | apply Kd.R_drew)); exact HO255.out) hb); have n1_ := Aside0.mk (below_step (by repeat (first | (with_reducible first | exact HB.out | apply below_alloc | apply pw_below_drewN | apply below_drew1) | exact HB.out)) hb); clear HO255; clear HB; have HO255 := n0_; have HB := n1_; clear n0_ n1_; (try clear hb); (try clear hb2); (try clear hk); (try clear hi)) | (go_at_call 20; (with_reducible refine (pte_Number.calls k t256 t265 _ A43.out).mono ?_); rintro e w49 ⟨rfl, hb⟩; have n0_ := Aside0.mk (Kd.R_below (by (with_reducible repeat (first | apply Kd.R_alloc | apply Kd.R_drewN | apply Kd.R_drew)); exact HO255.out) hb); have n1_ := Aside0.mk (below_step (by repeat (first | (with_reducible first | exact HB.out | apply below_alloc | apply pw_below_drewN | apply below_drew1) | exact HB.out)) hb); clear HO255; clear HB; have HO255 := n0_; have HB := n1_; clear n0_ n1_; (try clear hb); (try clear hb2); (try clear hk); (try clear hi)) | (go_at_call 21; (with_reducible refine (pte_Perm.calls k t256 t266 _ A45.out).mono ?_); rintro e w50 ⟨rfl, hb⟩; have n0_ := Aside0.mk (Kd.R_below (by (with_reducible repeat (first | apply Kd.R_alloc | apply Kd.R_drewN | apply Kd.R_drew)); exact HO255.out) hb); have n1_ := Aside0.mk (below_step (by repeat (first | (with_reducible first | exact HB.out | apply below_alloc | apply pw_below_drewN | apply below_drew1) | exact HB.out)) hb); clear HO255; clear HB; have HO255 := n0_; have HB := n1_; clear n0_ n1_; (try clear hb); (try clear hb2); (try clear hk); (try clear hi)) | (go_at_call 19; (with_reducible refine (pte_Kind.calls k t256 t267 _ A47.out).mono ?_); rintro e w51 ⟨rfl, hb⟩; have n0_ := Aside0.mk (Kd.R_below (by (with_reducible repeat (first | apply Kd.R_alloc | apply Kd.R_drewN | apply Kd.R_drew)); exact HO255.out) hb); have n1_ := Aside0.mk (below_step (by repeat (first | (with_reducible first | exact HB.out | apply below_alloc | apply pw_below_drewN | apply below_drew1) | exact HB.out)) hb); clear HO255; clear HB; have HO255 := n0_; have HB := n1_; clear n0_ n1_; (try clear hb); (try clear hb2); (try clear hk); (try clear hi)))
                        go_meet
                        case rel => exact ⟨_, ((t267 != 2)), (by first | rfl | (simp; done) | (simp [*]; done)), H', ⟨by first | omega | exact Nat.le_refl _⟩, ⟨by repeat (first | (with_reducible first | exact HB.out | apply below_alloc | apply pw_below_drewN | apply below_drew1) | exact HB.out)⟩⟩
                      · rw [if_neg c46] at H
                        have c46b0 : (t266 == (wrap64 (Int.tmod a1 8))) = false := beq_eq_false_iff_ne.mpr c46
                        have c46b1 : (t266 != (wrap64 (Int.tmod a1 8))) = true := bne_iff_ne.mpr c46
                        have H' := Aside0.mk H
                        clear H
                        go_wp2_with (first | (go_at_call 23; (with_reducible refine (pte_Clear.calls k t256 t264 _ A41.out).mono ?_); rintro e w52 ⟨rfl, hb⟩; have n0_ := Aside0.mk (Kd.R_below (by (with_reducible repeat (first | apply Kd.R_alloc | apply Kd.R_drewN | apply Kd.R_drew)); exact HO255.out) hb); have n1_ := Aside0.mk (below_step (by repeat (first | (with_reducible first | exact HB.out | apply below_alloc | apply pw_below_drewN | apply below_drew1) | exact HB.out)) hb); clear HO255; clear HB; have HO255 := n0_; have HB := n1_; clear n0_ n1_; (try clear hb); (try clear hb2); (try clear hk); (try clear hi)) | (go_at_call 20; (with_reducible refine (pte_Number.calls k t256 t265 _ A43.out).mono ?_); rintro e w53 ⟨rfl, hb⟩; have n0_ := Aside0.mk (Kd.R_below (by (with_reducible repeat (first | apply Kd.R_alloc | apply Kd.R_drewN | apply Kd.R_drew)); exact HO255.out) hb); have n1_ := Aside0.mk (below_step (by repeat (first | (with_reducible first | exact HB.out | apply below_alloc | apply pw_below_drewN | apply below_drew1) | exact HB.out)) hb); clear HO255; clear HB; have HO255 := n0_; have HB := n1_; clear n0_ n1_; (try clear hb); (try clear hb2); (try clear hk); (try clear hi)) | (go_at_call 21; (with_reducible refine (pte_Perm.calls k t256 t266 _ A45.out).mono ?_); rintro e w54 ⟨rfl, hb⟩; have n0_ := Aside0.mk (Kd.R_below (by (with_reducible repeat (first | apply Kd.R_alloc | apply Kd.R_drewN | apply Kd.R_drew)); exact HO255.out) hb); have n1_ := Aside0.mk (below_step (by repeat (first | (with_reducible first | exact HB.out | apply below_alloc | apply pw_below_drewN | apply below_drew1) | exact HB.out)) hb); clear HO255; clear HB; have HO255 := n0_; have HB := n1_; clear n0_ n1_; (try clear hb); (try clear hb2); (try clear hk); (try clear hi)))
                        go_meet
                        case rel => exact ⟨_, (true), (by first | rfl | (simp; done) | (simp [*]; done)), H', ⟨by first | omega | exact Nat.le_refl _⟩, ⟨by repeat (first | (with_reducible first | exact HB.out | apply below_alloc | apply pw_below_drewN | apply below_drew1) | exact HB.out)⟩⟩
                    · rw [if_neg c44] at H
                      have c44b0 : (t265 == (Int.tmod (wrap64 (a0)) 96)) = false := beq_eq_false_iff_ne.mpr c44
                      have c44b1 : (t265 != (Int.tmod (wrap64 (a0)) 96)) = true := bne_iff_ne.mpr c44
                      have H' := Aside0.mk H
                      clear H
                      go_wp2_with (first | (go_at_call 23; (with_reducible refine (pte_Clear.calls k t256 t264 _ A41.out).mono ?_); rintro e w55 ⟨rfl, hb⟩; have n0_ := Aside0.mk (Kd.R_below (by (with_reducible repeat (first | apply Kd.R_alloc | apply Kd.R_drewN | apply Kd.R_drew)); exact HO255.out) hb); have n1_ := Aside0.mk (below_step (by repeat (first | (with_reducible first | exact HB.out | apply below_alloc | apply pw_below_drewN | apply below_drew1) | exact HB.out)) hb); clear HO255; clear HB; have HO255 := n0_; have HB := n1_; clear n0_ n1_; (try clear hb); (try clear hb2); (try clear hk); (try clear hi)) | (go_at_call 20; (with_reducible refine (pte_Number.calls k t256 t265 _ A43.out).mono ?_); rintro e w56 ⟨rfl, hb⟩; have n0_ := Aside0.mk (Kd.R_below (by (with_reducible repeat (first | apply Kd.R_alloc | apply Kd.R_drewN | apply Kd.R_drew)); exact HO255.out) hb); have n1_ := Aside0.mk (below_step (by repeat (first | (with_reducible first | exact HB.out | apply below_alloc | apply pw_below_drewN | apply below_drew1) | exact HB.out)) hb); clear HO255; clear HB; have HO255 := n0_; have HB := n1_; clear n0_ n1_; (try clear hb); (try clear hb2); (try clear hk); (try clear hi)))
                      go_meet
                      case rel => exact ⟨_, (true), (by first | rfl | (simp; done) | (simp [*]; done)), H', ⟨by first | omega | exact Nat.le_refl _⟩, ⟨by repeat (first | (with_reducible first | exact HB.out | apply below_alloc | apply pw_below_drewN | apply below_drew1) | exact HB.out)⟩⟩
                  · rw [if_neg c42] at H
                    have c42b0 : (t264 == t249) = false := beq_eq_false_iff_ne.mpr c42
                    have c42b1 : (t264 != t249) = true := bne_iff_ne.mpr c42
                    have H' := Aside0.mk H
                    clear H
                    go_wp2_with (first | (go_at_call 23; (with_reducible refine (pte_Clear.calls k t256 t264 _ A41.out).mono ?_); rintro e w57 ⟨rfl, hb⟩; have n0_ := Aside0.mk (Kd.R_below (by (with_reducible repeat (first | apply Kd.R_alloc | apply Kd.R_drewN | apply Kd.R_drew)); exact HO255.out) hb); have n1_ := Aside0.mk (below_step (by repeat (first | (with_reducible first | exact HB.out | apply below_alloc | apply pw_below_drewN | apply below_drew1) | exact HB.out)) hb); clear HO255; clear HB; have HO255 := n0_; have HB := n1_; clear n0_ n1_; (try clear hb); (try clear hb2); (try clear hk); (try clear hi)))
                    go_meet
                    case rel => exact ⟨_, (true), (by first | rfl | (simp; done) | (simp [*]; done)), H', ⟨by first | omega | exact Nat.le_refl _⟩, ⟨by repeat (first | (with_reducible first | exact HB.out | apply below_alloc | apply pw_below_drewN | apply below_drew1) | exact HB.out)⟩⟩
                · rw [if_neg c40] at H
                  have c40b0 : (t256 == t249) = false := beq_eq_false_iff_ne.mpr c40
                  have c40b1 : (t256 != t249) = true := bne_iff_ne.mpr c40
                  have H' := Aside0.mk H
                  clear H
                  go_wp2
                  go_meet
                  case rel => exact ⟨_, (true), (by first | rfl | (simp; done) | (simp [*]; done)), H', ⟨by first | omega | exact Nat.le_refl _⟩, ⟨by repeat (first | (with_reducible first | exact HB.out | apply below_alloc | apply pw_below_drewN | apply below_drew1) | exact HB.out)⟩⟩
      case rest =>
        clear HC11
        try clear c1
        try clear c2
        try clear p2
        try clear c3
        try clear c4
        try clear c5
        try clear c6
        try clear p6
        try clear c7
        try clear c7b0
        try clear c7b1
        try clear c8
        try clear c14
        try clear c18
        try clear c18b0
        try clear c18b1
        try clear c18b2
        try clear c19
        try clear c19b0
        try clear c19b1
        try clear c19b2
        try clear c20
        try clear c21
        try clear c21b0
        try clear c21b1
        try clear c21b2
        try clear c23
        try clear c23b0
        try clear c23b1
        try clear c25
        try clear c25b0
        try clear c25b1
        try clear c27
        try clear c27b0
        try clear c27b1
        try clear c39
        try clear c39b0
        try clear c39b1
        try clear c39b2
        try clear c40
        try clear c40b0
        try clear c40b1
        try clear c42
        try clear c42b0
        try clear c42b1
        try clear c44
        try clear c44b0
        try clear c44b1
        try clear c46
        try clear c46b0
        try clear c46b1
        obtain ⟨kq, x110_10, rfl, HA, HJ10, HB⟩ := hcut
        cases kq with
        | zero => exact absurd HA.out (by simp [gunnylaw31_PteBack.j0])
        | succ kj10 =>
          have H := HA.out
          clear HA
          simp only [gunnylaw31_PteBack.j0] at H
          by_cases c58 : x110_10 = true
          · subst c58
            have H1 : (some false) = some r := by rw [if_pos rfl] at H; exact H
            clear H
            have H := H1
            clear H1
            obtain rfl := Option.some.inj H
            go_wp2
            go_ret
            exact ⟨by first | rfl | (simp [errW_none, errW_some] <;> rfl) | (simp only [← hji6, ← hji8]; first | rfl | (simp [errW_none, errW_some] <;> rfl)) | (simp [*, errW_none, errW_some] <;> rfl), by repeat (first | (with_reducible first | exact HB.out | apply below_alloc | apply pw_below_drewN | apply below_drew1) | exact HB.out)⟩
          · replace c58 := Bool.eq_false_iff.mpr c58
            subst c58
            have H1 : ((pte_Away.f kj10 (Int.tmod (wrap64 (a0)) 513) (wrap64 (Int.tmod a1 8))).bind fun bt268 => ((pte_Down.f kj10 (Int.tmod (wrap64 (a0)) 96)).bind fun bt270 => (if bt268.2 = true then (if bt270.2 = true then ((pte_Kind.f kj10 bt268.1).bind fun t272 => (if t272 = 3 then ((pte_Number.f kj10 bt268.1).bind fun t273 => (if t273 = (Int.tmod (wrap64 (a0)) 513) then ((pte_Perm.f kj10 bt268.1).bind fun t274 => (if t274 = (wrap64 (Int.tmod a1 8)) then ((pte_Kind.f kj10 bt270.1).bind fun t275 => (if t275 = 1 then ((pte_Number.f kj10 bt270.1).bind fun t276 => (if t276 = (Int.tmod (wrap64 (a0)) 96) then (if bt268.1 = t249 then (some false) else (if bt270.1 = t249 then (some false) else (if bt268.1 = bt270.1 then (some false) else ((gunnylaw31_lives.f kj10).bind fun t277 => (some t277))))) else (some false))) else (some false))) else (some false))) else (some false))) else (some false))) else (some false)) else (some false)))) = some r := by rw [if_neg (show ¬ (false = true) by decide)] at H; exact H
            clear H
            have H := H1
            clear H1
            replace H := Option.bind_eq_some_iff.mp H
            obtain ⟨⟨t268, t269⟩, A590, H⟩ := H
            replace H : ((pte_Down.f kj10 (Int.tmod (wrap64 (a0)) 96)).bind fun bt270 => (if t269 = true then (if bt270.2 = true then ((pte_Kind.f kj10 t268).bind fun t272 => (if t272 = 3 then ((pte_Number.f kj10 t268).bind fun t273 => (if t273 = (Int.tmod (wrap64 (a0)) 513) then ((pte_Perm.f kj10 t268).bind fun t274 => (if t274 = (wrap64 (Int.tmod a1 8)) then ((pte_Kind.f kj10 bt270.1).bind fun t275 => (if t275 = 1 then ((pte_Number.f kj10 bt270.1).bind fun t276 => (if t276 = (Int.tmod (wrap64 (a0)) 96) then (if t268 = t249 then (some false) else (if bt270.1 = t249 then (some false) else (if t268 = bt270.1 then (some false) else ((gunnylaw31_lives.f kj10).bind fun t277 => (some t277))))) else (some false))) else (some false))) else (some false))) else (some false))) else (some false))) else (some false)) else (some false))) = some r := H
            have A59 := Aside0.mk A590
            clear A590
            replace H := Option.bind_eq_some_iff.mp H
            obtain ⟨⟨t270, t271⟩, A600, H⟩ := H
            replace H : (if t269 = true then (if t271 = true then ((pte_Kind.f kj10 t268).bind fun t272 => (if t272 = 3 then ((pte_Number.f kj10 t268).bind fun t273 => (if t273 = (Int.tmod (wrap64 (a0)) 513) then ((pte_Perm.f kj10 t268).bind fun t274 => (if t274 = (wrap64 (Int.tmod a1 8)) then ((pte_Kind.f kj10 t270).bind fun t275 => (if t275 = 1 then ((pte_Number.f kj10 t270).bind fun t276 => (if t276 = (Int.tmod (wrap64 (a0)) 96) then (if t268 = t249 then (some false) else (if t270 = t249 then (some false) else (if t268 = t270 then (some false) else ((gunnylaw31_lives.f kj10).bind fun t277 => (some t277))))) else (some false))) else (some false))) else (some false))) else (some false))) else (some false))) else (some false)) else (some false)) = some r := H
            have A60 := Aside0.mk A600
            clear A600
            by_cases c61 : t269 = true
            · subst c61
              have H1 : (if t271 = true then ((pte_Kind.f kj10 t268).bind fun t272 => (if t272 = 3 then ((pte_Number.f kj10 t268).bind fun t273 => (if t273 = (Int.tmod (wrap64 (a0)) 513) then ((pte_Perm.f kj10 t268).bind fun t274 => (if t274 = (wrap64 (Int.tmod a1 8)) then ((pte_Kind.f kj10 t270).bind fun t275 => (if t275 = 1 then ((pte_Number.f kj10 t270).bind fun t276 => (if t276 = (Int.tmod (wrap64 (a0)) 96) then (if t268 = t249 then (some false) else (if t270 = t249 then (some false) else (if t268 = t270 then (some false) else ((gunnylaw31_lives.f kj10).bind fun t277 => (some t277))))) else (some false))) else (some false))) else (some false))) else (some false))) else (some false))) else (some false)) = some r := by rw [if_pos rfl] at H; exact H
              clear H
              have H := H1
              clear H1
              by_cases c62 : t271 = true
              · subst c62
                have H1 : ((pte_Kind.f kj10 t268).bind fun t272 => (if t272 = 3 then ((pte_Number.f kj10 t268).bind fun t273 => (if t273 = (Int.tmod (wrap64 (a0)) 513) then ((pte_Perm.f kj10 t268).bind fun t274 => (if t274 = (wrap64 (Int.tmod a1 8)) then ((pte_Kind.f kj10 t270).bind fun t275 => (if t275 = 1 then ((pte_Number.f kj10 t270).bind fun t276 => (if t276 = (Int.tmod (wrap64 (a0)) 96) then (if t268 = t249 then (some false) else (if t270 = t249 then (some false) else (if t268 = t270 then (some false) else ((gunnylaw31_lives.f kj10).bind fun t277 => (some t277))))) else (some false))) else (some false))) else (some false))) else (some false))) else (some false))) = some r := by rw [if_pos rfl] at H; exact H
                clear H
                have H := H1
                clear H1
                replace H := Option.bind_eq_some_iff.mp H
                obtain ⟨t272, A630, H⟩ := H
                replace H : (if t272 = 3 then ((pte_Number.f kj10 t268).bind fun t273 => (if t273 = (Int.tmod (wrap64 (a0)) 513) then ((pte_Perm.f kj10 t268).bind fun t274 => (if t274 = (wrap64 (Int.tmod a1 8)) then ((pte_Kind.f kj10 t270).bind fun t275 => (if t275 = 1 then ((pte_Number.f kj10 t270).bind fun t276 => (if t276 = (Int.tmod (wrap64 (a0)) 96) then (if t268 = t249 then (some false) else (if t270 = t249 then (some false) else (if t268 = t270 then (some false) else ((gunnylaw31_lives.f kj10).bind fun t277 => (some t277))))) else (some false))) else (some false))) else (some false))) else (some false))) else (some false)) = some r := H
                have A63 := Aside0.mk A630
                clear A630
                by_cases c64 : t272 = 3
                · rw [if_pos c64] at H
                  have c64b0 : (t272 == 3) = true := beq_iff_eq.mpr c64
                  have c64b1 : (t272 != 3) = false := bne_eq_false_iff_eq.mpr c64
                  clear c64
                  replace H := Option.bind_eq_some_iff.mp H
                  obtain ⟨t273, A650, H⟩ := H
                  replace H : (if t273 = (Int.tmod (wrap64 (a0)) 513) then ((pte_Perm.f kj10 t268).bind fun t274 => (if t274 = (wrap64 (Int.tmod a1 8)) then ((pte_Kind.f kj10 t270).bind fun t275 => (if t275 = 1 then ((pte_Number.f kj10 t270).bind fun t276 => (if t276 = (Int.tmod (wrap64 (a0)) 96) then (if t268 = t249 then (some false) else (if t270 = t249 then (some false) else (if t268 = t270 then (some false) else ((gunnylaw31_lives.f kj10).bind fun t277 => (some t277))))) else (some false))) else (some false))) else (some false))) else (some false)) = some r := H
                  have A65 := Aside0.mk A650
                  clear A650
                  by_cases c66 : t273 = (Int.tmod (wrap64 (a0)) 513)
                  · rw [if_pos c66] at H
                    have c66b0 : (t273 == (Int.tmod (wrap64 (a0)) 513)) = true := beq_iff_eq.mpr c66
                    have c66b1 : (t273 != (Int.tmod (wrap64 (a0)) 513)) = false := bne_eq_false_iff_eq.mpr c66
                    clear c66
                    replace H := Option.bind_eq_some_iff.mp H
                    obtain ⟨t274, A670, H⟩ := H
                    replace H : (if t274 = (wrap64 (Int.tmod a1 8)) then ((pte_Kind.f kj10 t270).bind fun t275 => (if t275 = 1 then ((pte_Number.f kj10 t270).bind fun t276 => (if t276 = (Int.tmod (wrap64 (a0)) 96) then (if t268 = t249 then (some false) else (if t270 = t249 then (some false) else (if t268 = t270 then (some false) else ((gunnylaw31_lives.f kj10).bind fun t277 => (some t277))))) else (some false))) else (some false))) else (some false)) = some r := H
                    have A67 := Aside0.mk A670
                    clear A670
                    by_cases c68 : t274 = (wrap64 (Int.tmod a1 8))
                    · rw [if_pos c68] at H
                      have c68b0 : (t274 == (wrap64 (Int.tmod a1 8))) = true := beq_iff_eq.mpr c68
                      have c68b1 : (t274 != (wrap64 (Int.tmod a1 8))) = false := bne_eq_false_iff_eq.mpr c68
                      clear c68
                      replace H := Option.bind_eq_some_iff.mp H
                      obtain ⟨t275, A690, H⟩ := H
                      replace H : (if t275 = 1 then ((pte_Number.f kj10 t270).bind fun t276 => (if t276 = (Int.tmod (wrap64 (a0)) 96) then (if t268 = t249 then (some false) else (if t270 = t249 then (some false) else (if t268 = t270 then (some false) else ((gunnylaw31_lives.f kj10).bind fun t277 => (some t277))))) else (some false))) else (some false)) = some r := H
                      have A69 := Aside0.mk A690
                      clear A690
                      by_cases c70 : t275 = 1
                      · rw [if_pos c70] at H
                        have c70b0 : (t275 == 1) = true := beq_iff_eq.mpr c70
                        have c70b1 : (t275 != 1) = false := bne_eq_false_iff_eq.mpr c70
                        clear c70
                        replace H := Option.bind_eq_some_iff.mp H
                        obtain ⟨t276, A710, H⟩ := H
                        replace H : (if t276 = (Int.tmod (wrap64 (a0)) 96) then (if t268 = t249 then (some false) else (if t270 = t249 then (some false) else (if t268 = t270 then (some false) else ((gunnylaw31_lives.f kj10).bind fun t277 => (some t277))))) else (some false)) = some r := H
                        have A71 := Aside0.mk A710
                        clear A710
                        by_cases c72 : t276 = (Int.tmod (wrap64 (a0)) 96)
                        · rw [if_pos c72] at H
                          have c72b0 : (t276 == (Int.tmod (wrap64 (a0)) 96)) = true := beq_iff_eq.mpr c72
                          have c72b1 : (t276 != (Int.tmod (wrap64 (a0)) 96)) = false := bne_eq_false_iff_eq.mpr c72
                          clear c72
                          by_cases c73 : t268 = t249
                          · rw [if_pos c73] at H
                            have c73b0 : (t268 == t249) = true := beq_iff_eq.mpr c73
                            have c73b1 : (t268 != t249) = false := bne_eq_false_iff_eq.mpr c73
                            clear c73
                            obtain rfl := Option.some.inj H
                            go_wp2_with (first | ((with_reducible refine gate_callee (f := 9) rfl ?_); refine goesL_ (some 116) rfl rfl Try.func9 (by kernel_rfl) rfl #[.int .i64 (Int.tmod (wrap64 (a0)) 513), .int .i64 (wrap64 (Int.tmod a1 8))] rfl (by (try simp only [List.map_toArray, List.map_cons, List.map_nil]); first | done | rfl | (simp only [List.length_drop, List.length_take]; rfl)) ?_; (with_reducible refine (pte_Away.calls kj10 (Int.tmod (wrap64 (a0)) 513) (wrap64 (Int.tmod a1 8)) t268 true _ A59.out).mono ?_); rintro e w74 ⟨rfl, hb⟩; refine ⟨_, rfl, ?_⟩; have n0_ := Aside0.mk (below_step (by repeat (first | (with_reducible first | exact HB.out | apply below_alloc | apply pw_below_drewN | apply below_drew1) | exact HB.out)) hb); clear HB; have HB := n0_; clear n0_; (try clear hb); (try clear hb2); (try clear hk); (try clear hi)) | ((with_reducible refine gate_callee (f := 7) rfl ?_); refine goesL_ (some 121) rfl rfl Try.func7 (by kernel_rfl) rfl #[.int .i64 (Int.tmod (wrap64 (a0)) 96)] rfl (by (try simp only [List.map_toArray, List.map_cons, List.map_nil]); first | done | rfl | (simp only [List.length_drop, List.length_take]; rfl)) ?_; (with_reducible refine (pte_Down.calls kj10 (Int.tmod (wrap64 (a0)) 96) t270 true _ A60.out).mono ?_); rintro e w75 ⟨rfl, hb⟩; refine ⟨_, rfl, ?_⟩; have n0_ := Aside0.mk (below_step (by repeat (first | (with_reducible first | exact HB.out | apply below_alloc | apply pw_below_drewN | apply below_drew1) | exact HB.out)) hb); clear HB; have HB := n0_; clear n0_; (try clear hb); (try clear hb2); (try clear hk); (try clear hi)) | (go_at_call 19; (with_reducible refine (pte_Kind.calls kj10 t268 t272 _ A63.out).mono ?_); rintro e w76 ⟨rfl, hb⟩; have n0_ := Aside0.mk (below_step (by repeat (first | (with_reducible first | exact HB.out | apply below_alloc | apply pw_below_drewN | apply below_drew1) | exact HB.out)) hb); clear HB; have HB := n0_; clear n0_; (try clear hb); (try clear hb2); (try clear hk); (try clear hi)) | (go_at_call 20; (with_reducible refine (pte_Number.calls kj10 t268 t273 _ A65.out).mono ?_); rintro e w77 ⟨rfl, hb⟩; have n0_ := Aside0.mk (below_step (by repeat (first | (with_reducible first | exact HB.out | apply below_alloc | apply pw_below_drewN | apply below_drew1) | exact HB.out)) hb); clear HB; have HB := n0_; clear n0_; (try clear hb); (try clear hb2); (try clear hk); (try clear hi)) | (go_at_call 21; (with_reducible refine (pte_Perm.calls kj10 t268 t274 _ A67.out).mono ?_); rintro e w78 ⟨rfl, hb⟩; have n0_ := Aside0.mk (below_step (by repeat (first | (with_reducible first | exact HB.out | apply below_alloc | apply pw_below_drewN | apply below_drew1) | exact HB.out)) hb); clear HB; have HB := n0_; clear n0_; (try clear hb); (try clear hb2); (try clear hk); (try clear hi)) | (go_at_call 19; (with_reducible refine (pte_Kind.calls kj10 t270 t275 _ A69.out).mono ?_); rintro e w79 ⟨rfl, hb⟩; have n0_ := Aside0.mk (below_step (by repeat (first | (with_reducible first | exact HB.out | apply below_alloc | apply pw_below_drewN | apply below_drew1) | exact HB.out)) hb); clear HB; have HB := n0_; clear n0_; (try clear hb); (try clear hb2); (try clear hk); (try clear hi)) | (go_at_call 20; (with_reducible refine (pte_Number.calls kj10 t270 t276 _ A71.out).mono ?_); rintro e w80 ⟨rfl, hb⟩; have n0_ := Aside0.mk (below_step (by repeat (first | (with_reducible first | exact HB.out | apply below_alloc | apply pw_below_drewN | apply below_drew1) | exact HB.out)) hb); clear HB; have HB := n0_; clear n0_; (try clear hb); (try clear hb2); (try clear hk); (try clear hi)))
                            go_ret
                            exact ⟨by first | rfl | (simp [errW_none, errW_some] <;> rfl) | (simp only [← hji6, ← hji8]; first | rfl | (simp [errW_none, errW_some] <;> rfl)) | (simp [*, errW_none, errW_some] <;> rfl), by repeat (first | (with_reducible first | exact HB.out | apply below_alloc | apply pw_below_drewN | apply below_drew1) | exact HB.out)⟩
                          · rw [if_neg c73] at H
                            have c73b0 : (t268 == t249) = false := beq_eq_false_iff_ne.mpr c73
                            have c73b1 : (t268 != t249) = true := bne_iff_ne.mpr c73
                            by_cases c81 : t270 = t249
                            · rw [if_pos c81] at H
                              have c81b0 : (t270 == t249) = true := beq_iff_eq.mpr c81
                              have c81b1 : (t270 != t249) = false := bne_eq_false_iff_eq.mpr c81
                              clear c81
                              obtain rfl := Option.some.inj H
                              go_wp2_with (first | ((with_reducible refine gate_callee (f := 9) rfl ?_); refine goesL_ (some 116) rfl rfl Try.func9 (by kernel_rfl) rfl #[.int .i64 (Int.tmod (wrap64 (a0)) 513), .int .i64 (wrap64 (Int.tmod a1 8))] rfl (by (try simp only [List.map_toArray, List.map_cons, List.map_nil]); first | done | rfl | (simp only [List.length_drop, List.length_take]; rfl)) ?_; (with_reducible refine (pte_Away.calls kj10 (Int.tmod (wrap64 (a0)) 513) (wrap64 (Int.tmod a1 8)) t268 true _ A59.out).mono ?_); rintro e w82 ⟨rfl, hb⟩; refine ⟨_, rfl, ?_⟩; have n0_ := Aside0.mk (below_step (by repeat (first | (with_reducible first | exact HB.out | apply below_alloc | apply pw_below_drewN | apply below_drew1) | exact HB.out)) hb); clear HB; have HB := n0_; clear n0_; (try clear hb); (try clear hb2); (try clear hk); (try clear hi)) | ((with_reducible refine gate_callee (f := 7) rfl ?_); refine goesL_ (some 121) rfl rfl Try.func7 (by kernel_rfl) rfl #[.int .i64 (Int.tmod (wrap64 (a0)) 96)] rfl (by (try simp only [List.map_toArray, List.map_cons, List.map_nil]); first | done | rfl | (simp only [List.length_drop, List.length_take]; rfl)) ?_; (with_reducible refine (pte_Down.calls kj10 (Int.tmod (wrap64 (a0)) 96) t270 true _ A60.out).mono ?_); rintro e w83 ⟨rfl, hb⟩; refine ⟨_, rfl, ?_⟩; have n0_ := Aside0.mk (below_step (by repeat (first | (with_reducible first | exact HB.out | apply below_alloc | apply pw_below_drewN | apply below_drew1) | exact HB.out)) hb); clear HB; have HB := n0_; clear n0_; (try clear hb); (try clear hb2); (try clear hk); (try clear hi)) | (go_at_call 19; (with_reducible refine (pte_Kind.calls kj10 t268 t272 _ A63.out).mono ?_); rintro e w84 ⟨rfl, hb⟩; have n0_ := Aside0.mk (below_step (by repeat (first | (with_reducible first | exact HB.out | apply below_alloc | apply pw_below_drewN | apply below_drew1) | exact HB.out)) hb); clear HB; have HB := n0_; clear n0_; (try clear hb); (try clear hb2); (try clear hk); (try clear hi)) | (go_at_call 20; (with_reducible refine (pte_Number.calls kj10 t268 t273 _ A65.out).mono ?_); rintro e w85 ⟨rfl, hb⟩; have n0_ := Aside0.mk (below_step (by repeat (first | (with_reducible first | exact HB.out | apply below_alloc | apply pw_below_drewN | apply below_drew1) | exact HB.out)) hb); clear HB; have HB := n0_; clear n0_; (try clear hb); (try clear hb2); (try clear hk); (try clear hi)) | (go_at_call 21; (with_reducible refine (pte_Perm.calls kj10 t268 t274 _ A67.out).mono ?_); rintro e w86 ⟨rfl, hb⟩; have n0_ := Aside0.mk (below_step (by repeat (first | (with_reducible first | exact HB.out | apply below_alloc | apply pw_below_drewN | apply below_drew1) | exact HB.out)) hb); clear HB; have HB := n0_; clear n0_; (try clear hb); (try clear hb2); (try clear hk); (try clear hi)) | (go_at_call 19; (with_reducible refine (pte_Kind.calls kj10 t270 t275 _ A69.out).mono ?_); rintro e w87 ⟨rfl, hb⟩; have n0_ := Aside0.mk (below_step (by repeat (first | (with_reducible first | exact HB.out | apply below_alloc | apply pw_below_drewN | apply below_drew1) | exact HB.out)) hb); clear HB; have HB := n0_; clear n0_; (try clear hb); (try clear hb2); (try clear hk); (try clear hi)) | (go_at_call 20; (with_reducible refine (pte_Number.calls kj10 t270 t276 _ A71.out).mono ?_); rintro e w88 ⟨rfl, hb⟩; have n0_ := Aside0.mk (below_step (by repeat (first | (with_reducible first | exact HB.out | apply below_alloc | apply pw_below_drewN | apply below_drew1) | exact HB.out)) hb); clear HB; have HB := n0_; clear n0_; (try clear hb); (try clear hb2); (try clear hk); (try clear hi)))
                              go_ret
                              exact ⟨by first | rfl | (simp [errW_none, errW_some] <;> rfl) | (simp only [← hji6, ← hji8]; first | rfl | (simp [errW_none, errW_some] <;> rfl)) | (simp [*, errW_none, errW_some] <;> rfl), by repeat (first | (with_reducible first | exact HB.out | apply below_alloc | apply pw_below_drewN | apply below_drew1) | exact HB.out)⟩
                            · rw [if_neg c81] at H
                              have c81b0 : (t270 == t249) = false := beq_eq_false_iff_ne.mpr c81
                              have c81b1 : (t270 != t249) = true := bne_iff_ne.mpr c81
                              by_cases c89 : t268 = t270
                              · rw [if_pos c89] at H
                                have c89b0 : (t268 == t270) = true := beq_iff_eq.mpr c89
                                have c89b1 : (t268 != t270) = false := bne_eq_false_iff_eq.mpr c89
                                clear c89
                                obtain rfl := Option.some.inj H
                                go_wp2_with (first | ((with_reducible refine gate_callee (f := 9) rfl ?_); refine goesL_ (some 116) rfl rfl Try.func9 (by kernel_rfl) rfl #[.int .i64 (Int.tmod (wrap64 (a0)) 513), .int .i64 (wrap64 (Int.tmod a1 8))] rfl (by (try simp only [List.map_toArray, List.map_cons, List.map_nil]); first | done | rfl | (simp only [List.length_drop, List.length_take]; rfl)) ?_; (with_reducible refine (pte_Away.calls kj10 (Int.tmod (wrap64 (a0)) 513) (wrap64 (Int.tmod a1 8)) t268 true _ A59.out).mono ?_); rintro e w90 ⟨rfl, hb⟩; refine ⟨_, rfl, ?_⟩; have n0_ := Aside0.mk (below_step (by repeat (first | (with_reducible first | exact HB.out | apply below_alloc | apply pw_below_drewN | apply below_drew1) | exact HB.out)) hb); clear HB; have HB := n0_; clear n0_; (try clear hb); (try clear hb2); (try clear hk); (try clear hi)) | ((with_reducible refine gate_callee (f := 7) rfl ?_); refine goesL_ (some 121) rfl rfl Try.func7 (by kernel_rfl) rfl #[.int .i64 (Int.tmod (wrap64 (a0)) 96)] rfl (by (try simp only [List.map_toArray, List.map_cons, List.map_nil]); first | done | rfl | (simp only [List.length_drop, List.length_take]; rfl)) ?_; (with_reducible refine (pte_Down.calls kj10 (Int.tmod (wrap64 (a0)) 96) t270 true _ A60.out).mono ?_); rintro e w91 ⟨rfl, hb⟩; refine ⟨_, rfl, ?_⟩; have n0_ := Aside0.mk (below_step (by repeat (first | (with_reducible first | exact HB.out | apply below_alloc | apply pw_below_drewN | apply below_drew1) | exact HB.out)) hb); clear HB; have HB := n0_; clear n0_; (try clear hb); (try clear hb2); (try clear hk); (try clear hi)) | (go_at_call 19; (with_reducible refine (pte_Kind.calls kj10 t268 t272 _ A63.out).mono ?_); rintro e w92 ⟨rfl, hb⟩; have n0_ := Aside0.mk (below_step (by repeat (first | (with_reducible first | exact HB.out | apply below_alloc | apply pw_below_drewN | apply below_drew1) | exact HB.out)) hb); clear HB; have HB := n0_; clear n0_; (try clear hb); (try clear hb2); (try clear hk); (try clear hi)) | (go_at_call 20; (with_reducible refine (pte_Number.calls kj10 t268 t273 _ A65.out).mono ?_); rintro e w93 ⟨rfl, hb⟩; have n0_ := Aside0.mk (below_step (by repeat (first | (with_reducible first | exact HB.out | apply below_alloc | apply pw_below_drewN | apply below_drew1) | exact HB.out)) hb); clear HB; have HB := n0_; clear n0_; (try clear hb); (try clear hb2); (try clear hk); (try clear hi)) | (go_at_call 21; (with_reducible refine (pte_Perm.calls kj10 t268 t274 _ A67.out).mono ?_); rintro e w94 ⟨rfl, hb⟩; have n0_ := Aside0.mk (below_step (by repeat (first | (with_reducible first | exact HB.out | apply below_alloc | apply pw_below_drewN | apply below_drew1) | exact HB.out)) hb); clear HB; have HB := n0_; clear n0_; (try clear hb); (try clear hb2); (try clear hk); (try clear hi)) | (go_at_call 19; (with_reducible refine (pte_Kind.calls kj10 t270 t275 _ A69.out).mono ?_); rintro e w95 ⟨rfl, hb⟩; have n0_ := Aside0.mk (below_step (by repeat (first | (with_reducible first | exact HB.out | apply below_alloc | apply pw_below_drewN | apply below_drew1) | exact HB.out)) hb); clear HB; have HB := n0_; clear n0_; (try clear hb); (try clear hb2); (try clear hk); (try clear hi)) | (go_at_call 20; (with_reducible refine (pte_Number.calls kj10 t270 t276 _ A71.out).mono ?_); rintro e w96 ⟨rfl, hb⟩; have n0_ := Aside0.mk (below_step (by repeat (first | (with_reducible first | exact HB.out | apply below_alloc | apply pw_below_drewN | apply below_drew1) | exact HB.out)) hb); clear HB; have HB := n0_; clear n0_; (try clear hb); (try clear hb2); (try clear hk); (try clear hi)))
                                go_ret
                                exact ⟨by first | rfl | (simp [errW_none, errW_some] <;> rfl) | (simp only [← hji6, ← hji8]; first | rfl | (simp [errW_none, errW_some] <;> rfl)) | (simp [*, errW_none, errW_some] <;> rfl), by repeat (first | (with_reducible first | exact HB.out | apply below_alloc | apply pw_below_drewN | apply below_drew1) | exact HB.out)⟩
                              · rw [if_neg c89] at H
                                have c89b0 : (t268 == t270) = false := beq_eq_false_iff_ne.mpr c89
                                have c89b1 : (t268 != t270) = true := bne_iff_ne.mpr c89
                                replace H := Option.bind_eq_some_iff.mp H
                                obtain ⟨t277, A970, H⟩ := H
                                replace H : (some t277) = some r := H
                                have A97 := Aside0.mk A970
                                clear A970
                                obtain rfl := Option.some.inj H
                                go_wp2_with (first | ((with_reducible refine gate_callee (f := 9) rfl ?_); refine goesL_ (some 116) rfl rfl Try.func9 (by kernel_rfl) rfl #[.int .i64 (Int.tmod (wrap64 (a0)) 513), .int .i64 (wrap64 (Int.tmod a1 8))] rfl (by (try simp only [List.map_toArray, List.map_cons, List.map_nil]); first | done | rfl | (simp only [List.length_drop, List.length_take]; rfl)) ?_; (with_reducible refine (pte_Away.calls kj10 (Int.tmod (wrap64 (a0)) 513) (wrap64 (Int.tmod a1 8)) t268 true _ A59.out).mono ?_); rintro e w98 ⟨rfl, hb⟩; refine ⟨_, rfl, ?_⟩; have n0_ := Aside0.mk (below_step (by repeat (first | (with_reducible first | exact HB.out | apply below_alloc | apply pw_below_drewN | apply below_drew1) | exact HB.out)) hb); clear HB; have HB := n0_; clear n0_; (try clear hb); (try clear hb2); (try clear hk); (try clear hi)) | ((with_reducible refine gate_callee (f := 7) rfl ?_); refine goesL_ (some 121) rfl rfl Try.func7 (by kernel_rfl) rfl #[.int .i64 (Int.tmod (wrap64 (a0)) 96)] rfl (by (try simp only [List.map_toArray, List.map_cons, List.map_nil]); first | done | rfl | (simp only [List.length_drop, List.length_take]; rfl)) ?_; (with_reducible refine (pte_Down.calls kj10 (Int.tmod (wrap64 (a0)) 96) t270 true _ A60.out).mono ?_); rintro e w99 ⟨rfl, hb⟩; refine ⟨_, rfl, ?_⟩; have n0_ := Aside0.mk (below_step (by repeat (first | (with_reducible first | exact HB.out | apply below_alloc | apply pw_below_drewN | apply below_drew1) | exact HB.out)) hb); clear HB; have HB := n0_; clear n0_; (try clear hb); (try clear hb2); (try clear hk); (try clear hi)) | (go_at_call 19; (with_reducible refine (pte_Kind.calls kj10 t268 t272 _ A63.out).mono ?_); rintro e w100 ⟨rfl, hb⟩; have n0_ := Aside0.mk (below_step (by repeat (first | (with_reducible first | exact HB.out | apply below_alloc | apply pw_below_drewN | apply below_drew1) | exact HB.out)) hb); clear HB; have HB := n0_; clear n0_; (try clear hb); (try clear hb2); (try clear hk); (try clear hi)) | (go_at_call 20; (with_reducible refine (pte_Number.calls kj10 t268 t273 _ A65.out).mono ?_); rintro e w101 ⟨rfl, hb⟩; have n0_ := Aside0.mk (below_step (by repeat (first | (with_reducible first | exact HB.out | apply below_alloc | apply pw_below_drewN | apply below_drew1) | exact HB.out)) hb); clear HB; have HB := n0_; clear n0_; (try clear hb); (try clear hb2); (try clear hk); (try clear hi)) | (go_at_call 21; (with_reducible refine (pte_Perm.calls kj10 t268 t274 _ A67.out).mono ?_); rintro e w102 ⟨rfl, hb⟩; have n0_ := Aside0.mk (below_step (by repeat (first | (with_reducible first | exact HB.out | apply below_alloc | apply pw_below_drewN | apply below_drew1) | exact HB.out)) hb); clear HB; have HB := n0_; clear n0_; (try clear hb); (try clear hb2); (try clear hk); (try clear hi)) | (go_at_call 19; (with_reducible refine (pte_Kind.calls kj10 t270 t275 _ A69.out).mono ?_); rintro e w103 ⟨rfl, hb⟩; have n0_ := Aside0.mk (below_step (by repeat (first | (with_reducible first | exact HB.out | apply below_alloc | apply pw_below_drewN | apply below_drew1) | exact HB.out)) hb); clear HB; have HB := n0_; clear n0_; (try clear hb); (try clear hb2); (try clear hk); (try clear hi)) | (go_at_call 20; (with_reducible refine (pte_Number.calls kj10 t270 t276 _ A71.out).mono ?_); rintro e w104 ⟨rfl, hb⟩; have n0_ := Aside0.mk (below_step (by repeat (first | (with_reducible first | exact HB.out | apply below_alloc | apply pw_below_drewN | apply below_drew1) | exact HB.out)) hb); clear HB; have HB := n0_; clear n0_; (try clear hb); (try clear hb2); (try clear hk); (try clear hi)) | (go_at_call 13; (with_reducible refine (gunnylaw31_lives.calls kj10  t277 _ A97.out).mono ?_); rintro e w105 ⟨rfl, hb⟩; have n0_ := Aside0.mk (below_step (by repeat (first | (with_reducible first | exact HB.out | apply below_alloc | apply pw_below_drewN | apply below_drew1) | exact HB.out)) hb); clear HB; have HB := n0_; clear n0_; (try clear hb); (try clear hb2); (try clear hk); (try clear hi)))
                                go_ret
                                exact ⟨by first | rfl | (simp [errW_none, errW_some] <;> rfl) | (simp only [← hji6, ← hji8]; first | rfl | (simp [errW_none, errW_some] <;> rfl)) | (simp [*, errW_none, errW_some] <;> rfl), by repeat (first | (with_reducible first | exact HB.out | apply below_alloc | apply pw_below_drewN | apply below_drew1) | exact HB.out)⟩
                        · rw [if_neg c72] at H
                          have c72b0 : (t276 == (Int.tmod (wrap64 (a0)) 96)) = false := beq_eq_false_iff_ne.mpr c72
                          have c72b1 : (t276 != (Int.tmod (wrap64 (a0)) 96)) = true := bne_iff_ne.mpr c72
                          obtain rfl := Option.some.inj H
                          go_wp2_with (first | ((with_reducible refine gate_callee (f := 9) rfl ?_); refine goesL_ (some 116) rfl rfl Try.func9 (by kernel_rfl) rfl #[.int .i64 (Int.tmod (wrap64 (a0)) 513), .int .i64 (wrap64 (Int.tmod a1 8))] rfl (by (try simp only [List.map_toArray, List.map_cons, List.map_nil]); first | done | rfl | (simp only [List.length_drop, List.length_take]; rfl)) ?_; (with_reducible refine (pte_Away.calls kj10 (Int.tmod (wrap64 (a0)) 513) (wrap64 (Int.tmod a1 8)) t268 true _ A59.out).mono ?_); rintro e w106 ⟨rfl, hb⟩; refine ⟨_, rfl, ?_⟩; have n0_ := Aside0.mk (below_step (by repeat (first | (with_reducible first | exact HB.out | apply below_alloc | apply pw_below_drewN | apply below_drew1) | exact HB.out)) hb); clear HB; have HB := n0_; clear n0_; (try clear hb); (try clear hb2); (try clear hk); (try clear hi)) | ((with_reducible refine gate_callee (f := 7) rfl ?_); refine goesL_ (some 121) rfl rfl Try.func7 (by kernel_rfl) rfl #[.int .i64 (Int.tmod (wrap64 (a0)) 96)] rfl (by (try simp only [List.map_toArray, List.map_cons, List.map_nil]); first | done | rfl | (simp only [List.length_drop, List.length_take]; rfl)) ?_; (with_reducible refine (pte_Down.calls kj10 (Int.tmod (wrap64 (a0)) 96) t270 true _ A60.out).mono ?_); rintro e w107 ⟨rfl, hb⟩; refine ⟨_, rfl, ?_⟩; have n0_ := Aside0.mk (below_step (by repeat (first | (with_reducible first | exact HB.out | apply below_alloc | apply pw_below_drewN | apply below_drew1) | exact HB.out)) hb); clear HB; have HB := n0_; clear n0_; (try clear hb); (try clear hb2); (try clear hk); (try clear hi)) | (go_at_call 19; (with_reducible refine (pte_Kind.calls kj10 t268 t272 _ A63.out).mono ?_); rintro e w108 ⟨rfl, hb⟩; have n0_ := Aside0.mk (below_step (by repeat (first | (with_reducible first | exact HB.out | apply below_alloc | apply pw_below_drewN | apply below_drew1) | exact HB.out)) hb); clear HB; have HB := n0_; clear n0_; (try clear hb); (try clear hb2); (try clear hk); (try clear hi)) | (go_at_call 20; (with_reducible refine (pte_Number.calls kj10 t268 t273 _ A65.out).mono ?_); rintro e w109 ⟨rfl, hb⟩; have n0_ := Aside0.mk (below_step (by repeat (first | (with_reducible first | exact HB.out | apply below_alloc | apply pw_below_drewN | apply below_drew1) | exact HB.out)) hb); clear HB; have HB := n0_; clear n0_; (try clear hb); (try clear hb2); (try clear hk); (try clear hi)) | (go_at_call 21; (with_reducible refine (pte_Perm.calls kj10 t268 t274 _ A67.out).mono ?_); rintro e w110 ⟨rfl, hb⟩; have n0_ := Aside0.mk (below_step (by repeat (first | (with_reducible first | exact HB.out | apply below_alloc | apply pw_below_drewN | apply below_drew1) | exact HB.out)) hb); clear HB; have HB := n0_; clear n0_; (try clear hb); (try clear hb2); (try clear hk); (try clear hi)) | (go_at_call 19; (with_reducible refine (pte_Kind.calls kj10 t270 t275 _ A69.out).mono ?_); rintro e w111 ⟨rfl, hb⟩; have n0_ := Aside0.mk (below_step (by repeat (first | (with_reducible first | exact HB.out | apply below_alloc | apply pw_below_drewN | apply below_drew1) | exact HB.out)) hb); clear HB; have HB := n0_; clear n0_; (try clear hb); (try clear hb2); (try clear hk); (try clear hi)) | (go_at_call 20; (with_reducible refine (pte_Number.calls kj10 t270 t276 _ A71.out).mono ?_); rintro e w112 ⟨rfl, hb⟩; have n0_ := Aside0.mk (below_step (by repeat (first | (with_reducible first | exact HB.out | apply below_alloc | apply pw_below_drewN | apply below_drew1) | exact HB.out)) hb); clear HB; have HB := n0_; clear n0_; (try clear hb); (try clear hb2); (try clear hk); (try clear hi)))
                          go_ret
                          exact ⟨by first | rfl | (simp [errW_none, errW_some] <;> rfl) | (simp only [← hji6, ← hji8]; first | rfl | (simp [errW_none, errW_some] <;> rfl)) | (simp [*, errW_none, errW_some] <;> rfl), by repeat (first | (with_reducible first | exact HB.out | apply below_alloc | apply pw_below_drewN | apply below_drew1) | exact HB.out)⟩
                      · rw [if_neg c70] at H
                        have c70b0 : (t275 == 1) = false := beq_eq_false_iff_ne.mpr c70
                        have c70b1 : (t275 != 1) = true := bne_iff_ne.mpr c70
                        obtain rfl := Option.some.inj H
                        go_wp2_with (first | ((with_reducible refine gate_callee (f := 9) rfl ?_); refine goesL_ (some 116) rfl rfl Try.func9 (by kernel_rfl) rfl #[.int .i64 (Int.tmod (wrap64 (a0)) 513), .int .i64 (wrap64 (Int.tmod a1 8))] rfl (by (try simp only [List.map_toArray, List.map_cons, List.map_nil]); first | done | rfl | (simp only [List.length_drop, List.length_take]; rfl)) ?_; (with_reducible refine (pte_Away.calls kj10 (Int.tmod (wrap64 (a0)) 513) (wrap64 (Int.tmod a1 8)) t268 true _ A59.out).mono ?_); rintro e w113 ⟨rfl, hb⟩; refine ⟨_, rfl, ?_⟩; have n0_ := Aside0.mk (below_step (by repeat (first | (with_reducible first | exact HB.out | apply below_alloc | apply pw_below_drewN | apply below_drew1) | exact HB.out)) hb); clear HB; have HB := n0_; clear n0_; (try clear hb); (try clear hb2); (try clear hk); (try clear hi)) | ((with_reducible refine gate_callee (f := 7) rfl ?_); refine goesL_ (some 121) rfl rfl Try.func7 (by kernel_rfl) rfl #[.int .i64 (Int.tmod (wrap64 (a0)) 96)] rfl (by (try simp only [List.map_toArray, List.map_cons, List.map_nil]); first | done | rfl | (simp only [List.length_drop, List.length_take]; rfl)) ?_; (with_reducible refine (pte_Down.calls kj10 (Int.tmod (wrap64 (a0)) 96) t270 true _ A60.out).mono ?_); rintro e w114 ⟨rfl, hb⟩; refine ⟨_, rfl, ?_⟩; have n0_ := Aside0.mk (below_step (by repeat (first | (with_reducible first | exact HB.out | apply below_alloc | apply pw_below_drewN | apply below_drew1) | exact HB.out)) hb); clear HB; have HB := n0_; clear n0_; (try clear hb); (try clear hb2); (try clear hk); (try clear hi)) | (go_at_call 19; (with_reducible refine (pte_Kind.calls kj10 t268 t272 _ A63.out).mono ?_); rintro e w115 ⟨rfl, hb⟩; have n0_ := Aside0.mk (below_step (by repeat (first | (with_reducible first | exact HB.out | apply below_alloc | apply pw_below_drewN | apply below_drew1) | exact HB.out)) hb); clear HB; have HB := n0_; clear n0_; (try clear hb); (try clear hb2); (try clear hk); (try clear hi)) | (go_at_call 20; (with_reducible refine (pte_Number.calls kj10 t268 t273 _ A65.out).mono ?_); rintro e w116 ⟨rfl, hb⟩; have n0_ := Aside0.mk (below_step (by repeat (first | (with_reducible first | exact HB.out | apply below_alloc | apply pw_below_drewN | apply below_drew1) | exact HB.out)) hb); clear HB; have HB := n0_; clear n0_; (try clear hb); (try clear hb2); (try clear hk); (try clear hi)) | (go_at_call 21; (with_reducible refine (pte_Perm.calls kj10 t268 t274 _ A67.out).mono ?_); rintro e w117 ⟨rfl, hb⟩; have n0_ := Aside0.mk (below_step (by repeat (first | (with_reducible first | exact HB.out | apply below_alloc | apply pw_below_drewN | apply below_drew1) | exact HB.out)) hb); clear HB; have HB := n0_; clear n0_; (try clear hb); (try clear hb2); (try clear hk); (try clear hi)) | (go_at_call 19; (with_reducible refine (pte_Kind.calls kj10 t270 t275 _ A69.out).mono ?_); rintro e w118 ⟨rfl, hb⟩; have n0_ := Aside0.mk (below_step (by repeat (first | (with_reducible first | exact HB.out | apply below_alloc | apply pw_below_drewN | apply below_drew1) | exact HB.out)) hb); clear HB; have HB := n0_; clear n0_; (try clear hb); (try clear hb2); (try clear hk); (try clear hi)))
                        go_ret
                        exact ⟨by first | rfl | (simp [errW_none, errW_some] <;> rfl) | (simp only [← hji6, ← hji8]; first | rfl | (simp [errW_none, errW_some] <;> rfl)) | (simp [*, errW_none, errW_some] <;> rfl), by repeat (first | (with_reducible first | exact HB.out | apply below_alloc | apply pw_below_drewN | apply below_drew1) | exact HB.out)⟩
                    · rw [if_neg c68] at H
                      have c68b0 : (t274 == (wrap64 (Int.tmod a1 8))) = false := beq_eq_false_iff_ne.mpr c68
                      have c68b1 : (t274 != (wrap64 (Int.tmod a1 8))) = true := bne_iff_ne.mpr c68
                      obtain rfl := Option.some.inj H
                      go_wp2_with (first | ((with_reducible refine gate_callee (f := 9) rfl ?_); refine goesL_ (some 116) rfl rfl Try.func9 (by kernel_rfl) rfl #[.int .i64 (Int.tmod (wrap64 (a0)) 513), .int .i64 (wrap64 (Int.tmod a1 8))] rfl (by (try simp only [List.map_toArray, List.map_cons, List.map_nil]); first | done | rfl | (simp only [List.length_drop, List.length_take]; rfl)) ?_; (with_reducible refine (pte_Away.calls kj10 (Int.tmod (wrap64 (a0)) 513) (wrap64 (Int.tmod a1 8)) t268 true _ A59.out).mono ?_); rintro e w119 ⟨rfl, hb⟩; refine ⟨_, rfl, ?_⟩; have n0_ := Aside0.mk (below_step (by repeat (first | (with_reducible first | exact HB.out | apply below_alloc | apply pw_below_drewN | apply below_drew1) | exact HB.out)) hb); clear HB; have HB := n0_; clear n0_; (try clear hb); (try clear hb2); (try clear hk); (try clear hi)) | ((with_reducible refine gate_callee (f := 7) rfl ?_); refine goesL_ (some 121) rfl rfl Try.func7 (by kernel_rfl) rfl #[.int .i64 (Int.tmod (wrap64 (a0)) 96)] rfl (by (try simp only [List.map_toArray, List.map_cons, List.map_nil]); first | done | rfl | (simp only [List.length_drop, List.length_take]; rfl)) ?_; (with_reducible refine (pte_Down.calls kj10 (Int.tmod (wrap64 (a0)) 96) t270 true _ A60.out).mono ?_); rintro e w120 ⟨rfl, hb⟩; refine ⟨_, rfl, ?_⟩; have n0_ := Aside0.mk (below_step (by repeat (first | (with_reducible first | exact HB.out | apply below_alloc | apply pw_below_drewN | apply below_drew1) | exact HB.out)) hb); clear HB; have HB := n0_; clear n0_; (try clear hb); (try clear hb2); (try clear hk); (try clear hi)) | (go_at_call 19; (with_reducible refine (pte_Kind.calls kj10 t268 t272 _ A63.out).mono ?_); rintro e w121 ⟨rfl, hb⟩; have n0_ := Aside0.mk (below_step (by repeat (first | (with_reducible first | exact HB.out | apply below_alloc | apply pw_below_drewN | apply below_drew1) | exact HB.out)) hb); clear HB; have HB := n0_; clear n0_; (try clear hb); (try clear hb2); (try clear hk); (try clear hi)) | (go_at_call 20; (with_reducible refine (pte_Number.calls kj10 t268 t273 _ A65.out).mono ?_); rintro e w122 ⟨rfl, hb⟩; have n0_ := Aside0.mk (below_step (by repeat (first | (with_reducible first | exact HB.out | apply below_alloc | apply pw_below_drewN | apply below_drew1) | exact HB.out)) hb); clear HB; have HB := n0_; clear n0_; (try clear hb); (try clear hb2); (try clear hk); (try clear hi)) | (go_at_call 21; (with_reducible refine (pte_Perm.calls kj10 t268 t274 _ A67.out).mono ?_); rintro e w123 ⟨rfl, hb⟩; have n0_ := Aside0.mk (below_step (by repeat (first | (with_reducible first | exact HB.out | apply below_alloc | apply pw_below_drewN | apply below_drew1) | exact HB.out)) hb); clear HB; have HB := n0_; clear n0_; (try clear hb); (try clear hb2); (try clear hk); (try clear hi)))
                      go_ret
                      exact ⟨by first | rfl | (simp [errW_none, errW_some] <;> rfl) | (simp only [← hji6, ← hji8]; first | rfl | (simp [errW_none, errW_some] <;> rfl)) | (simp [*, errW_none, errW_some] <;> rfl), by repeat (first | (with_reducible first | exact HB.out | apply below_alloc | apply pw_below_drewN | apply below_drew1) | exact HB.out)⟩
                  · rw [if_neg c66] at H
                    have c66b0 : (t273 == (Int.tmod (wrap64 (a0)) 513)) = false := beq_eq_false_iff_ne.mpr c66
                    have c66b1 : (t273 != (Int.tmod (wrap64 (a0)) 513)) = true := bne_iff_ne.mpr c66
                    obtain rfl := Option.some.inj H
                    go_wp2_with (first | ((with_reducible refine gate_callee (f := 9) rfl ?_); refine goesL_ (some 116) rfl rfl Try.func9 (by kernel_rfl) rfl #[.int .i64 (Int.tmod (wrap64 (a0)) 513), .int .i64 (wrap64 (Int.tmod a1 8))] rfl (by (try simp only [List.map_toArray, List.map_cons, List.map_nil]); first | done | rfl | (simp only [List.length_drop, List.length_take]; rfl)) ?_; (with_reducible refine (pte_Away.calls kj10 (Int.tmod (wrap64 (a0)) 513) (wrap64 (Int.tmod a1 8)) t268 true _ A59.out).mono ?_); rintro e w124 ⟨rfl, hb⟩; refine ⟨_, rfl, ?_⟩; have n0_ := Aside0.mk (below_step (by repeat (first | (with_reducible first | exact HB.out | apply below_alloc | apply pw_below_drewN | apply below_drew1) | exact HB.out)) hb); clear HB; have HB := n0_; clear n0_; (try clear hb); (try clear hb2); (try clear hk); (try clear hi)) | ((with_reducible refine gate_callee (f := 7) rfl ?_); refine goesL_ (some 121) rfl rfl Try.func7 (by kernel_rfl) rfl #[.int .i64 (Int.tmod (wrap64 (a0)) 96)] rfl (by (try simp only [List.map_toArray, List.map_cons, List.map_nil]); first | done | rfl | (simp only [List.length_drop, List.length_take]; rfl)) ?_; (with_reducible refine (pte_Down.calls kj10 (Int.tmod (wrap64 (a0)) 96) t270 true _ A60.out).mono ?_); rintro e w125 ⟨rfl, hb⟩; refine ⟨_, rfl, ?_⟩; have n0_ := Aside0.mk (below_step (by repeat (first | (with_reducible first | exact HB.out | apply below_alloc | apply pw_below_drewN | apply below_drew1) | exact HB.out)) hb); clear HB; have HB := n0_; clear n0_; (try clear hb); (try clear hb2); (try clear hk); (try clear hi)) | (go_at_call 19; (with_reducible refine (pte_Kind.calls kj10 t268 t272 _ A63.out).mono ?_); rintro e w126 ⟨rfl, hb⟩; have n0_ := Aside0.mk (below_step (by repeat (first | (with_reducible first | exact HB.out | apply below_alloc | apply pw_below_drewN | apply below_drew1) | exact HB.out)) hb); clear HB; have HB := n0_; clear n0_; (try clear hb); (try clear hb2); (try clear hk); (try clear hi)) | (go_at_call 20; (with_reducible refine (pte_Number.calls kj10 t268 t273 _ A65.out).mono ?_); rintro e w127 ⟨rfl, hb⟩; have n0_ := Aside0.mk (below_step (by repeat (first | (with_reducible first | exact HB.out | apply below_alloc | apply pw_below_drewN | apply below_drew1) | exact HB.out)) hb); clear HB; have HB := n0_; clear n0_; (try clear hb); (try clear hb2); (try clear hk); (try clear hi)))
                    go_ret
                    exact ⟨by first | rfl | (simp [errW_none, errW_some] <;> rfl) | (simp only [← hji6, ← hji8]; first | rfl | (simp [errW_none, errW_some] <;> rfl)) | (simp [*, errW_none, errW_some] <;> rfl), by repeat (first | (with_reducible first | exact HB.out | apply below_alloc | apply pw_below_drewN | apply below_drew1) | exact HB.out)⟩
                · rw [if_neg c64] at H
                  have c64b0 : (t272 == 3) = false := beq_eq_false_iff_ne.mpr c64
                  have c64b1 : (t272 != 3) = true := bne_iff_ne.mpr c64
                  obtain rfl := Option.some.inj H
                  go_wp2_with (first | ((with_reducible refine gate_callee (f := 9) rfl ?_); refine goesL_ (some 116) rfl rfl Try.func9 (by kernel_rfl) rfl #[.int .i64 (Int.tmod (wrap64 (a0)) 513), .int .i64 (wrap64 (Int.tmod a1 8))] rfl (by (try simp only [List.map_toArray, List.map_cons, List.map_nil]); first | done | rfl | (simp only [List.length_drop, List.length_take]; rfl)) ?_; (with_reducible refine (pte_Away.calls kj10 (Int.tmod (wrap64 (a0)) 513) (wrap64 (Int.tmod a1 8)) t268 true _ A59.out).mono ?_); rintro e w128 ⟨rfl, hb⟩; refine ⟨_, rfl, ?_⟩; have n0_ := Aside0.mk (below_step (by repeat (first | (with_reducible first | exact HB.out | apply below_alloc | apply pw_below_drewN | apply below_drew1) | exact HB.out)) hb); clear HB; have HB := n0_; clear n0_; (try clear hb); (try clear hb2); (try clear hk); (try clear hi)) | ((with_reducible refine gate_callee (f := 7) rfl ?_); refine goesL_ (some 121) rfl rfl Try.func7 (by kernel_rfl) rfl #[.int .i64 (Int.tmod (wrap64 (a0)) 96)] rfl (by (try simp only [List.map_toArray, List.map_cons, List.map_nil]); first | done | rfl | (simp only [List.length_drop, List.length_take]; rfl)) ?_; (with_reducible refine (pte_Down.calls kj10 (Int.tmod (wrap64 (a0)) 96) t270 true _ A60.out).mono ?_); rintro e w129 ⟨rfl, hb⟩; refine ⟨_, rfl, ?_⟩; have n0_ := Aside0.mk (below_step (by repeat (first | (with_reducible first | exact HB.out | apply below_alloc | apply pw_below_drewN | apply below_drew1) | exact HB.out)) hb); clear HB; have HB := n0_; clear n0_; (try clear hb); (try clear hb2); (try clear hk); (try clear hi)) | (go_at_call 19; (with_reducible refine (pte_Kind.calls kj10 t268 t272 _ A63.out).mono ?_); rintro e w130 ⟨rfl, hb⟩; have n0_ := Aside0.mk (below_step (by repeat (first | (with_reducible first | exact HB.out | apply below_alloc | apply pw_below_drewN | apply below_drew1) | exact HB.out)) hb); clear HB; have HB := n0_; clear n0_; (try clear hb); (try clear hb2); (try clear hk); (try clear hi)))
                  go_ret
                  exact ⟨by first | rfl | (simp [errW_none, errW_some] <;> rfl) | (simp only [← hji6, ← hji8]; first | rfl | (simp [errW_none, errW_some] <;> rfl)) | (simp [*, errW_none, errW_some] <;> rfl), by repeat (first | (with_reducible first | exact HB.out | apply below_alloc | apply pw_below_drewN | apply below_drew1) | exact HB.out)⟩
              · replace c62 := Bool.eq_false_iff.mpr c62
                subst c62
                have H1 : (some false) = some r := by rw [if_neg (show ¬ (false = true) by decide)] at H; exact H
                clear H
                have H := H1
                clear H1
                obtain rfl := Option.some.inj H
                go_wp2_with (first | ((with_reducible refine gate_callee (f := 9) rfl ?_); refine goesL_ (some 116) rfl rfl Try.func9 (by kernel_rfl) rfl #[.int .i64 (Int.tmod (wrap64 (a0)) 513), .int .i64 (wrap64 (Int.tmod a1 8))] rfl (by (try simp only [List.map_toArray, List.map_cons, List.map_nil]); first | done | rfl | (simp only [List.length_drop, List.length_take]; rfl)) ?_; (with_reducible refine (pte_Away.calls kj10 (Int.tmod (wrap64 (a0)) 513) (wrap64 (Int.tmod a1 8)) t268 true _ A59.out).mono ?_); rintro e w131 ⟨rfl, hb⟩; refine ⟨_, rfl, ?_⟩; have n0_ := Aside0.mk (below_step (by repeat (first | (with_reducible first | exact HB.out | apply below_alloc | apply pw_below_drewN | apply below_drew1) | exact HB.out)) hb); clear HB; have HB := n0_; clear n0_; (try clear hb); (try clear hb2); (try clear hk); (try clear hi)) | ((with_reducible refine gate_callee (f := 7) rfl ?_); refine goesL_ (some 121) rfl rfl Try.func7 (by kernel_rfl) rfl #[.int .i64 (Int.tmod (wrap64 (a0)) 96)] rfl (by (try simp only [List.map_toArray, List.map_cons, List.map_nil]); first | done | rfl | (simp only [List.length_drop, List.length_take]; rfl)) ?_; (with_reducible refine (pte_Down.calls kj10 (Int.tmod (wrap64 (a0)) 96) t270 false _ A60.out).mono ?_); rintro e w132 ⟨rfl, hb⟩; refine ⟨_, rfl, ?_⟩; have n0_ := Aside0.mk (below_step (by repeat (first | (with_reducible first | exact HB.out | apply below_alloc | apply pw_below_drewN | apply below_drew1) | exact HB.out)) hb); clear HB; have HB := n0_; clear n0_; (try clear hb); (try clear hb2); (try clear hk); (try clear hi)))
                go_ret
                exact ⟨by first | rfl | (simp [errW_none, errW_some] <;> rfl) | (simp only [← hji6, ← hji8]; first | rfl | (simp [errW_none, errW_some] <;> rfl)) | (simp [*, errW_none, errW_some] <;> rfl), by repeat (first | (with_reducible first | exact HB.out | apply below_alloc | apply pw_below_drewN | apply below_drew1) | exact HB.out)⟩
            · replace c61 := Bool.eq_false_iff.mpr c61
              subst c61
              have H1 : (some false) = some r := by rw [if_neg (show ¬ (false = true) by decide)] at H; exact H
              clear H
              have H := H1
              clear H1
              obtain rfl := Option.some.inj H
              go_wp2_with (first | ((with_reducible refine gate_callee (f := 9) rfl ?_); refine goesL_ (some 116) rfl rfl Try.func9 (by kernel_rfl) rfl #[.int .i64 (Int.tmod (wrap64 (a0)) 513), .int .i64 (wrap64 (Int.tmod a1 8))] rfl (by (try simp only [List.map_toArray, List.map_cons, List.map_nil]); first | done | rfl | (simp only [List.length_drop, List.length_take]; rfl)) ?_; (with_reducible refine (pte_Away.calls kj10 (Int.tmod (wrap64 (a0)) 513) (wrap64 (Int.tmod a1 8)) t268 false _ A59.out).mono ?_); rintro e w133 ⟨rfl, hb⟩; refine ⟨_, rfl, ?_⟩; have n0_ := Aside0.mk (below_step (by repeat (first | (with_reducible first | exact HB.out | apply below_alloc | apply pw_below_drewN | apply below_drew1) | exact HB.out)) hb); clear HB; have HB := n0_; clear n0_; (try clear hb); (try clear hb2); (try clear hk); (try clear hi)) | ((with_reducible refine gate_callee (f := 7) rfl ?_); refine goesL_ (some 121) rfl rfl Try.func7 (by kernel_rfl) rfl #[.int .i64 (Int.tmod (wrap64 (a0)) 96)] rfl (by (try simp only [List.map_toArray, List.map_cons, List.map_nil]); first | done | rfl | (simp only [List.length_drop, List.length_take]; rfl)) ?_; (with_reducible refine (pte_Down.calls kj10 (Int.tmod (wrap64 (a0)) 96) t270 t271 _ A60.out).mono ?_); rintro e w134 ⟨rfl, hb⟩; refine ⟨_, rfl, ?_⟩; have n0_ := Aside0.mk (below_step (by repeat (first | (with_reducible first | exact HB.out | apply below_alloc | apply pw_below_drewN | apply below_drew1) | exact HB.out)) hb); clear HB; have HB := n0_; clear n0_; (try clear hb); (try clear hb2); (try clear hk); (try clear hi)))
              go_ret
              exact ⟨by first | rfl | (simp [errW_none, errW_some] <;> rfl) | (simp only [← hji6, ← hji8]; first | rfl | (simp [errW_none, errW_some] <;> rfl)) | (simp [*, errW_none, errW_some] <;> rfl), by repeat (first | (with_reducible first | exact HB.out | apply below_alloc | apply pw_below_drewN | apply below_drew1) | exact HB.out)⟩
    · rw [if_neg c7] at H
      exact absurd H (by simp)
  · replace c5 := Bool.eq_false_iff.mpr c5
    subst c5
    have H1 : ((pte_May.f (wrap64 (Int.tmod a1 8))).bind fun t251 => (if t251 = true then (some false) else (if t249 = 0 then ((gunnylaw31_lives.f k).bind fun t252 => (some t252)) else (some false)))) = some r := by rw [if_neg (show ¬ (false = true) by decide)] at H; exact H
    clear H
    have H := H1
    clear H1
    replace H := Option.bind_eq_some_iff.mp H
    obtain ⟨t251, A1350, H⟩ := H
    replace H : (if t251 = true then (some false) else (if t249 = 0 then ((gunnylaw31_lives.f k).bind fun t252 => (some t252)) else (some false))) = some r := H
    have A135 := Aside0.mk A1350
    clear A1350
    by_cases c136 : t251 = true
    · subst c136
      have H1 : (some false) = some r := by rw [if_pos rfl] at H; exact H
      clear H
      have H := H1
      clear H1
      obtain rfl := Option.some.inj H
      go_enter Try.func6, Try.ntmps6
      go_wp2_with (first | ((with_reducible refine gate_callee (f := 8) rfl ?_); refine goesL_ (some 29) rfl rfl Try.func8 (by kernel_rfl) rfl #[.int .i64 (Int.tmod (wrap64 (a0)) 96), .int .i64 (wrap64 (Int.tmod a1 8))] rfl (by (try simp only [List.map_toArray, List.map_cons, List.map_nil]); first | done | rfl | (simp only [List.length_drop, List.length_take]; rfl)) ?_; (with_reducible refine (pte_Page.calls k (Int.tmod (wrap64 (a0)) 96) (wrap64 (Int.tmod a1 8)) t249 false _ A4.out).mono ?_); rintro e w137 ⟨rfl, hb⟩; refine ⟨_, rfl, ?_⟩; have n0_ := Aside0.mk (below_step (by repeat (first | (with_reducible first | exact HB.out | apply below_alloc | apply pw_below_drewN | apply below_drew1) | exact HB.out)) hb); clear HB; have HB := n0_; clear n0_; (try clear hb); (try clear hb2); (try clear hk); (try clear hi)) | ((with_reducible refine gate_callee (f := 11) rfl ?_); refine goesL_ (some 35) rfl rfl Try.func11 (by kernel_rfl) rfl #[.int .i64 (wrap64 (Int.tmod a1 8))] rfl (by (try simp only [List.map_toArray, List.map_cons, List.map_nil]); first | done | rfl | (simp only [List.length_drop, List.length_take]; rfl)) ?_; (with_reducible refine (pte_May.calls (wrap64 (Int.tmod a1 8)) true _ A135.out).mono ?_); rintro e w' ⟨rfl, ⟨nd, rfl⟩⟩; refine ⟨_, rfl, ?_⟩))
      go_ret
      exact ⟨by first | rfl | (simp [errW_none, errW_some] <;> rfl) | (simp [*, errW_none, errW_some] <;> rfl), by repeat (first | (with_reducible first | exact HB.out | apply below_alloc | apply pw_below_drewN | apply below_drew1) | exact HB.out)⟩
    · replace c136 := Bool.eq_false_iff.mpr c136
      subst c136
      have H1 : (if t249 = 0 then ((gunnylaw31_lives.f k).bind fun t252 => (some t252)) else (some false)) = some r := by rw [if_neg (show ¬ (false = true) by decide)] at H; exact H
      clear H
      have H := H1
      clear H1
      by_cases c138 : t249 = 0
      · rw [if_pos c138] at H
        have c138b0 : (t249 == 0) = true := beq_iff_eq.mpr c138
        have c138b1 : (t249 != 0) = false := bne_eq_false_iff_eq.mpr c138
        clear c138
        replace H := Option.bind_eq_some_iff.mp H
        obtain ⟨t252, A1390, H⟩ := H
        replace H : (some t252) = some r := H
        have A139 := Aside0.mk A1390
        clear A1390
        obtain rfl := Option.some.inj H
        go_enter Try.func6, Try.ntmps6
        go_wp2_with (first | ((with_reducible refine gate_callee (f := 8) rfl ?_); refine goesL_ (some 29) rfl rfl Try.func8 (by kernel_rfl) rfl #[.int .i64 (Int.tmod (wrap64 (a0)) 96), .int .i64 (wrap64 (Int.tmod a1 8))] rfl (by (try simp only [List.map_toArray, List.map_cons, List.map_nil]); first | done | rfl | (simp only [List.length_drop, List.length_take]; rfl)) ?_; (with_reducible refine (pte_Page.calls k (Int.tmod (wrap64 (a0)) 96) (wrap64 (Int.tmod a1 8)) t249 false _ A4.out).mono ?_); rintro e w140 ⟨rfl, hb⟩; refine ⟨_, rfl, ?_⟩; have n0_ := Aside0.mk (below_step (by repeat (first | (with_reducible first | exact HB.out | apply below_alloc | apply pw_below_drewN | apply below_drew1) | exact HB.out)) hb); clear HB; have HB := n0_; clear n0_; (try clear hb); (try clear hb2); (try clear hk); (try clear hi)) | ((with_reducible refine gate_callee (f := 11) rfl ?_); refine goesL_ (some 35) rfl rfl Try.func11 (by kernel_rfl) rfl #[.int .i64 (wrap64 (Int.tmod a1 8))] rfl (by (try simp only [List.map_toArray, List.map_cons, List.map_nil]); first | done | rfl | (simp only [List.length_drop, List.length_take]; rfl)) ?_; (with_reducible refine (pte_May.calls (wrap64 (Int.tmod a1 8)) false _ A135.out).mono ?_); rintro e w' ⟨rfl, ⟨nd, rfl⟩⟩; refine ⟨_, rfl, ?_⟩) | (go_at_call 13; (with_reducible refine (gunnylaw31_lives.calls k  t252 _ A139.out).mono ?_); rintro e w141 ⟨rfl, hb⟩; have n0_ := Aside0.mk (below_step (by repeat (first | (with_reducible first | exact HB.out | apply below_alloc | apply pw_below_drewN | apply below_drew1) | exact HB.out)) hb); clear HB; have HB := n0_; clear n0_; (try clear hb); (try clear hb2); (try clear hk); (try clear hi)))
        go_ret
        exact ⟨by first | rfl | (simp [errW_none, errW_some] <;> rfl) | (simp [*, errW_none, errW_some] <;> rfl), by repeat (first | (with_reducible first | exact HB.out | apply below_alloc | apply pw_below_drewN | apply below_drew1) | exact HB.out)⟩
      · rw [if_neg c138] at H
        have c138b0 : (t249 == 0) = false := beq_eq_false_iff_ne.mpr c138
        have c138b1 : (t249 != 0) = true := bne_iff_ne.mpr c138
        obtain rfl := Option.some.inj H
        go_enter Try.func6, Try.ntmps6
        go_wp2_with (first | ((with_reducible refine gate_callee (f := 8) rfl ?_); refine goesL_ (some 29) rfl rfl Try.func8 (by kernel_rfl) rfl #[.int .i64 (Int.tmod (wrap64 (a0)) 96), .int .i64 (wrap64 (Int.tmod a1 8))] rfl (by (try simp only [List.map_toArray, List.map_cons, List.map_nil]); first | done | rfl | (simp only [List.length_drop, List.length_take]; rfl)) ?_; (with_reducible refine (pte_Page.calls k (Int.tmod (wrap64 (a0)) 96) (wrap64 (Int.tmod a1 8)) t249 false _ A4.out).mono ?_); rintro e w142 ⟨rfl, hb⟩; refine ⟨_, rfl, ?_⟩; have n0_ := Aside0.mk (below_step (by repeat (first | (with_reducible first | exact HB.out | apply below_alloc | apply pw_below_drewN | apply below_drew1) | exact HB.out)) hb); clear HB; have HB := n0_; clear n0_; (try clear hb); (try clear hb2); (try clear hk); (try clear hi)) | ((with_reducible refine gate_callee (f := 11) rfl ?_); refine goesL_ (some 35) rfl rfl Try.func11 (by kernel_rfl) rfl #[.int .i64 (wrap64 (Int.tmod a1 8))] rfl (by (try simp only [List.map_toArray, List.map_cons, List.map_nil]); first | done | rfl | (simp only [List.length_drop, List.length_take]; rfl)) ?_; (with_reducible refine (pte_May.calls (wrap64 (Int.tmod a1 8)) false _ A135.out).mono ?_); rintro e w' ⟨rfl, ⟨nd, rfl⟩⟩; refine ⟨_, rfl, ?_⟩))
        go_ret
        exact ⟨by first | rfl | (simp [errW_none, errW_some] <;> rfl) | (simp [*, errW_none, errW_some] <;> rfl), by repeat (first | (with_reducible first | exact HB.out | apply below_alloc | apply pw_below_drewN | apply below_drew1) | exact HB.out)⟩

/-- THE ONE PURE STATEMENT of gunnylaw31_PteBack: yours. -/
def gunnylaw31_PteBack.Pure : Prop := ∀ (a0 : Int) (a1 : Int) (a2 : Int), (Lit.int .u16 a0).wf = true → (Lit.int .u8 a1).wf = true → (Lit.int .u8 a2).wf = true → ∃ k, gunnylaw31_PteBack.f k a0 a1 a2 = some true
theorem gunnylaw31_PteBack.walk (P : gunnylaw31_PteBack.Pure) (a0 : Int) (a1 : Int) (a2 : Int) (w : World) (w0 : (Lit.int .u16 a0).wf = true) (w1 : (Lit.int .u8 a1).wf = true) (w2 : (Lit.int .u8 a2).wf = true) :
    Calls Try.prog 6 #[.int .u16 a0, .int .u8 a1, .int .u8 a2] w fun e w' => e = .returned (.bool true) ∧ Below w.heap.size w w' := by
  obtain ⟨k, h⟩ := P a0 a1 a2 w0 w1 w2
  refine (gunnylaw31_PteBack.calls k a0 a1 a2 true w h).mono ?_
  rintro e w' ⟨rfl, hd⟩
  exact ⟨rfl, hd⟩

end Go.Proofs.Ytcadfblcpfhjfaa.R
