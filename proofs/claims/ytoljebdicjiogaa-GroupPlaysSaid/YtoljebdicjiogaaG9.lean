/- A book and its list; the chapter's example; GroupOf: walked. -/
import Derived.Test.YtoljebdicjiogaaG8
namespace Go.Proofs.Ytoljebdicjiogaa.Hand
set_option linter.unusedVariables false
set_option linter.unusedSimpArgs false
open Go.RowKit Go.Maps Go.Proofs.Ytoljebdicjiogaa.R Go.Proofs.YtoljebdicjiogaaW.PrintWords Go.Proofs.YtoljebdicjiogaaW.PrintLast Go.Proofs.YtoljebdicjiogaaW.PrintMore

def dropL (l : List S30) (n : Int) : List S30 := l.filter (fun h => h.f0 != n)
def putL (l : List S30) (h : S30) : List S30 := dropL l h.f0 ++ [h]
theorem isKeyI (n : Int) : WideAt.IsKeyLit (.int .i64 n) := by simp [WideAt.IsKeyLit]
theorem RelD.start : RelD (.map [] : DataW Unit) [] := ⟨List.nodup_nil, fun n => rfl, fun h hh => (by cases hh), fun h hh => (by cases hh)⟩
theorem lit_ne {a b : Int} (h : a ≠ b) : Lit.int .i64 a ≠ Lit.int .i64 b := fun e => h (by injection e)
theorem dropL_nd {l : List S30} (h : (l.map (·.f0)).Nodup) (n : Int) : ((dropL l n).map (·.f0)).Nodup :=
  (List.Sublist.map _ List.filter_sublist).nodup h
theorem dropL_mem {l : List S30} {n : Int} {y : S30} : y ∈ dropL l n ↔ y ∈ l ∧ y.f0 ≠ n := by
  unfold dropL
  rw [List.mem_filter]
  simp
theorem any_dropL (l : List S30) (n k : Int) : (dropL l n).any (fun h => h.f0 == k) = (l.any (fun h => h.f0 == k) && !(k == n)) := by
  induction l with
  | nil => rfl
  | cons y l ih =>
    unfold dropL at ih ⊢
    rw [List.filter_cons, List.any_cons]
    by_cases e : y.f0 = n
    · have e1 : (y.f0 != n) = false := by simpa using e
      rw [e1, if_neg (by decide), ih]
      by_cases e2 : k = n
      · simp [e2]
      · have e3 : (y.f0 == k) = false := beq_eq_false_iff_ne.mpr (fun h => e2 (by omega))
        rw [e3, Bool.false_or]
    · have e1 : (y.f0 != n) = true := by simpa using e
      rw [e1, if_pos rfl, List.any_cons, ih]
      by_cases e2 : k = n
      · have e3 : (y.f0 == k) = false := beq_eq_false_iff_ne.mpr (fun h => e (by omega))
        rw [e3, Bool.false_or, Bool.false_or]
      · have e3 : (k == n) = false := beq_eq_false_iff_ne.mpr e2
        rw [e3]
        simp
theorem RelD.del {D : DataW Unit} {l : List S30} (h : RelD D l) (n : Int) : RelD (D.del (.int .i64 n)) (dropL l n) := by
  refine ⟨dropL_nd h.nd n, fun k => ?_, fun y hy z => ?_, fun y hy => h.ok y (dropL_mem.1 hy).1⟩
  · rw [any_dropL]
    by_cases e : k = n
    · subst e
      rw [has_del_same]
      simp
    · rw [has_del_other (lit_ne e), h.has k, show (k == n) = false from beq_eq_false_iff_ne.mpr e]
      simp
  · obtain ⟨h1, h2⟩ := dropL_mem.1 hy
    rw [atKey_del_other (lit_ne h2)]
    exact h.at_ y h1 z
theorem RelD.put {D : DataW Unit} {l : List S30} (h : RelD D l) (hD : IsMap D) (x : S30) (hx : 0 ≤ x.f0 ∧ x.f0 ≤ 4095 ∧ 0 ≤ x.f1 ∧ x.f1 ≤ x.f2 ∧ x.f2 ≤ 100000000) : RelD (D.put (.int .i64 x.f0) (pairD x.f1 x.f2)) (putL l x) := by
  unfold putL
  refine ⟨?_, fun k => ?_, fun y hy z => ?_, fun y hy => ?_⟩
  · rw [List.map_append]
    refine List.nodup_append.2 ⟨dropL_nd h.nd _, by simp, fun a ha b hb => ?_⟩
    obtain ⟨y, hy, rfl⟩ := List.mem_map.1 ha
    have : b = x.f0 := by simpa using hb
    rw [this]
    exact (dropL_mem.1 hy).2
  · rw [List.any_append, any_dropL]
    by_cases e : k = x.f0
    · subst e
      rw [has_put_same hD (isKeyI _)]
      simp
    · rw [has_put_other (lit_ne e), h.has k, show (k == x.f0) = false from beq_eq_false_iff_ne.mpr e]
      have e2 : (x.f0 == k) = false := beq_eq_false_iff_ne.mpr (fun h => e h.symm)
      simp [e2]
  · rcases List.mem_append.1 hy with hy | hy
    · obtain ⟨h1, h2⟩ := dropL_mem.1 hy
      rw [atKey_put_other (lit_ne h2)]
      exact h.at_ y h1 z
    · obtain rfl := List.mem_singleton.1 hy
      exact atKey_put_same hD (isKeyI _) _ _
  · rcases List.mem_append.1 hy with hy | hy
    · exact h.ok y (dropL_mem.1 hy).1
    · obtain rfl := List.mem_singleton.1 hy
      exact hx

/-! the chapter's example -/
def lx : List S30 := [⟨0, 3, 4⟩, ⟨1, 1, 4⟩]
theorem numL_lx : numL lx [] = [0, 1] := by
  have : sortI (lx.map (·.f0)) = [0, 1] := List.mergeSort_of_pairwise (by decide)
  unfold numL
  rw [this]
  rfl
theorem best_lx : bestF lx (numL lx []) (0, false) = (0, true) := by rw [numL_lx]; decide +kernel
theorem worst_lx : worstF lx (numL lx []) (0, false) = (1, true) := by rw [numL_lx]; decide +kernel
theorem room_lx : roomF lx (numL lx []) 0 = 4 := by rw [numL_lx]; decide +kernel
theorem nilC (w : World) : Kd.C (Kd.int .i64) w none ([] : List Int).length [] := ⟨rfl, by simp, fun h => absurd h (Nat.lt_irrefl 0)⟩

set_option maxHeartbeats 8000000 in
set_option maxRecDepth 100000 in
theorem lives_calls (w : World) : Calls Try.prog 7 #[] w fun e w' => e = .returned (.bool true) ∧ Below w.heap.size w w' := by
  have hR1 := RelD.start.put isMap_empty ⟨0, 3, 4⟩ (by decide)
  have hM1 : IsMap ((.map [] : DataW Unit).put (.int .i64 0) (pairD 3 4)) := isMap_empty.put _ _
  have hR2 := hR1.put hM1 ⟨1, 1, 4⟩ (by decide)
  have el : putL (putL [] ⟨0, 3, 4⟩) ⟨1, 1, 4⟩ = lx := by rfl
  rw [el] at hR2
  dsimp only at hR2
  generalize hD2 : ((.map [] : DataW Unit).put (.int .i64 0) (pairD 3 4)).put (.int .i64 1) (pairD 1 4) = D2 at hR2
  replace hR2 := Aside0.mk hR2
  clear el hR1 hM1
  go_enter Try.func7, Try.ntmps7
  go_upto_region 4 with (first
    | (go_at_call 10; refine (newb_calls _).mono ?_; rintro e w1 ⟨rfl, hB1, hb1⟩; replace hB1 := Aside0.mk hB1; replace hb1 := Aside0.mk hb1)
    | (go_at_call 11; refine (put_yes _ _ _ _ 1 1 4 _ hB2.out (by omega) (by omega) (by omega) (by omega) (by omega)).mono ?_; rintro e w3 ⟨rfl, hB3, hF3⟩; replace hB3 := Aside0.mk hB3; replace hF3 := Aside0.mk hF3)
    | (go_at_call 11; refine (put_yes _ _ _ _ 0 3 4 _ hB1.out (by omega) (by omega) (by omega) (by omega) (by omega)).mono ?_; rintro e w2 ⟨rfl, hB2, hF2⟩; replace hB2 := Aside0.mk hB2; replace hF2 := Aside0.mk hF2))
  rw [hD2] at hB3
  have hb3 := Aside0.mk (show Below w.heap.size w w3 from (hb1.out.trans (hF2.out.below hb1.out.size (fun i e => by rw [e]; exact Nat.le_refl _))).trans (hF3.out.below (Nat.le_trans hb1.out.size hF2.out.size) (fun i e => by rw [e]; exact Nat.le_refl _)))
  have hBe := fun W (hW : Below w3.heap.size w3 W) => best_calls _ _ _ _ lx none 0 [] W (hB3.out.below hW) hR2.out (by omega) (by decide) (nilC W) (Nat.le_refl _) (by simp)
  have hWo := fun W (hW : Below w3.heap.size w3 W) => worst_calls _ _ _ _ lx W (hB3.out.below hW) hR2.out (by omega) (by decide)
  have hRo := fun W (hW : Below w3.heap.size w3 W) => room_calls _ _ _ _ lx none 0 [] W (hB3.out.below hW) hR2.out (by omega) (by decide) (nilC W) (Nat.le_refl _) (by simp)
  rw [best_lx] at hBe
  rw [worst_lx] at hWo
  rw [room_lx] at hRo
  replace hBe := Aside0.mk hBe
  replace hWo := Aside0.mk hWo
  replace hRo := Aside0.mk hRo
  go_wp2_with (first
    | (go_at_call 14; refine (hBe.out _ (Below.refl _ _)).mono ?_; rintro e w4 ⟨rfl, hb4⟩; replace hb4 := Aside0.mk hb4)
    | (go_at_call 15; refine (hWo.out _ hb4.out).mono ?_; rintro e w5 ⟨rfl, hb5⟩; replace hb5 := Aside0.mk (below_step hb4.out hb5))
    | (go_at_call 18; refine (hRo.out _ hb5.out).mono ?_; rintro e w6 ⟨rfl, hb6⟩; replace hb6 := Aside0.mk (below_step hb5.out hb6)))
  go_returns
  exact ⟨rfl, hb3.out.trans (hb6.out.mono hb3.out.size)⟩

theorem big_calls (a : Int) (w : World) : Calls Try.prog 6 #[.int .i64 a] w fun e w' => e = .returned (.bool (decide (a > 100000000 ∨ a < -100000000))) ∧ Drawn0 w w' := by
  refine gunnylaw18_big.calls a _ w ?_
  unfold gunnylaw18_big.f
  by_cases h : a > 100000000
  · rw [if_pos h, decide_eq_true (Or.inl h)]
  · rw [if_neg h]
    by_cases h2 : a < -100000000
    · rw [decide_eq_true h2, decide_eq_true (Or.inr h2)]
    · rw [decide_eq_false h2, decide_eq_false (fun hh => hh.elim h h2)]
set_option maxHeartbeats 8000000 in
set_option maxRecDepth 100000 in
theorem of_law (u m : Int) (w : World) : Calls Try.prog 3 #[.int .i64 u, .int .i64 m] w fun e w' => e = .returned (.bool true) ∧ Below w.heap.size w w' := by
  have hU := big_calls u
  have hM := big_calls m
  by_cases h1 : u > 100000000 ∨ u < -100000000
  · rw [decide_eq_true h1] at hU
    replace hU := Aside0.mk hU
    clear hM h1
    go_enter Try.func3, Try.ntmps3
    go_wp2_with (first | (go_at_call 6; refine (hU.out _).mono ?_; rintro e w1 ⟨rfl, hd1⟩; replace hd1 := Aside0.mk hd1.below) | (go_at_call 7; refine (lives_calls _).mono ?_; rintro e w9 ⟨rfl, hb9⟩; replace hb9 := Aside0.mk hb9))
    go_returns
    exact ⟨rfl, below_step hd1.out hb9.out⟩
  · rw [decide_eq_false h1] at hU
    by_cases h2 : m > 100000000 ∨ m < -100000000
    · rw [decide_eq_true h2] at hM
      replace hU := Aside0.mk hU
      replace hM := Aside0.mk hM
      clear h1 h2
      go_enter Try.func3, Try.ntmps3
      go_wp2_with (first | (go_at_call 6; refine (hM.out _).mono ?_; have hd1' := hd1; rintro e w2 ⟨rfl, hd2⟩; replace hd2 := Aside0.mk (below_step hd1.out hd2.below)) | (go_at_call 6; refine (hU.out _).mono ?_; rintro e w1 ⟨rfl, hd1⟩; replace hd1 := Aside0.mk hd1.below) | (go_at_call 7; refine (lives_calls _).mono ?_; rintro e w9 ⟨rfl, hb9⟩; replace hb9 := Aside0.mk hb9))
      go_returns
      exact ⟨rfl, below_step hd2.out hb9.out⟩
    · rw [decide_eq_false h2] at hM
      have hs : small u m := by unfold small; omega
      have hO := Aside0.mk (fun w => of_calls u m hs w)
      have hP := fun w => refof_calls u m hs w
      rw [← ofG_ofR] at hP
      replace hP := Aside0.mk hP
      generalize ofG u m = z at hO hP
      replace hU := Aside0.mk hU
      replace hM := Aside0.mk hM
      clear h1 h2 hs
      go_enter Try.func3, Try.ntmps3
      go_wp2_with (first | (go_at_call 6; refine (hM.out _).mono ?_; have hd1' := hd1; rintro e w2 ⟨rfl, hd2⟩; replace hd2 := Aside0.mk (below_step hd1.out hd2.below)) | (go_at_call 6; refine (hU.out _).mono ?_; rintro e w1 ⟨rfl, hd1⟩; replace hd1 := Aside0.mk hd1.below) | (go_at_call 8; refine (hO.out _).mono ?_; rintro e w3 ⟨rfl, hd3⟩; replace hd3 := Aside0.mk (below_step hd2.out hd3.below)) | (go_at_call 9; refine (hP.out _).mono ?_; rintro e w4 ⟨rfl, hd4⟩; replace hd4 := Aside0.mk (below_step hd3.out hd4.below)) | (go_at_call 7; refine (lives_calls _).mono ?_; rintro e w9 ⟨rfl, hb9⟩; replace hb9 := Aside0.mk hb9))
      go_returns
      exact ⟨rfl, below_step hd4.out hb9.out⟩
theorem of_walk (W : World) (a0 : Int) (w0 : (Lit.int .i64 a0).wf = true) (a1 : Int) (w1 : (Lit.int .i64 a1).wf = true) : Calls Try.prog 3 #[.int .i64 a0, .int .i64 a1] W fun e w' => e = .returned (.bool true) ∧ Below W.heap.size W w' := of_law a0 a1 W
end Go.Proofs.Ytoljebdicjiogaa.Hand
