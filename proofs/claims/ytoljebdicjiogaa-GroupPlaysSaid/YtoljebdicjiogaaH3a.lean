/- GroupHelps: plain (written by genH3.py). -/
import Derived.Test.YtoljebdicjiogaaH2
import Derived.Deep.RegionLaw
import Derived.Deep.RegionHeld3
import Derived.Deep.DeepCutAuto
namespace Go.Proofs.Ytoljebdicjiogaa.Hand
set_option linter.unusedVariables false
set_option linter.unusedSimpArgs false
open Go.RowKit Go.Maps Go.Proofs.Ytoljebdicjiogaa.R Go.Proofs.YtoljebdicjiogaaW.PrintWords Go.Proofs.YtoljebdicjiogaaW.PrintLast Go.Proofs.YtoljebdicjiogaaW.PrintMore

theorem ofG4 {u m : Int} (h0 : 0 ≤ u) (h1 : u ≤ m) : ofG u m = 4 ↔ m ≤ u := by
  unfold ofG
  constructor
  · intro h
    by_cases c : m < 1 ∨ m ≤ u
    · omega
    · rw [if_neg c] at h
      exfalso
      revert h
      split
      · decide
      · split
        · decide
        · split <;> decide
  · intro h
    rw [if_pos (Or.inr h)]
theorem ofG0 {u m : Int} (h0 : 0 ≤ u) (h1 : u ≤ m) (h4 : ¬ m ≤ u) : ofG u m = 0 ↔ u < 1 := by
  unfold ofG
  rw [if_neg (by omega)]
  constructor
  · intro h
    by_cases c : u < 1
    · exact c
    · rw [if_neg c] at h
      exfalso
      revert h
      split
      · decide
      · split <;> decide
  · intro h
    rw [if_pos h]
/-- Who is best helps. -/
theorem helps_best {D : DataW Unit} {l : List S30} (h : RelD D l) (hl : l.length ≤ 1000000) (i : Nat) (hi : i < l.length) (hr : l[i].f2 - l[i].f1 > 0) (s : Int × Bool) (hs : BestN l (numL l []) s) :
    s.2 = true ∧ ∃ (j : Nat) (hj : j < l.length), gunnyref18_At.f (l.length + 1) l s.1 = some (j : Int) ∧ l[j].f2 - l[j].f1 ≤ l[i].f2 - l[i].f1 ∧ l[j].f1 < l[j].f2 := by
  have hm := List.getElem_mem hi
  have hok := h.ok _ hm
  have hU := U_mem h.nd hm
  have hin : l[i].f0 ∈ numL l [] := mem_numL.2 ⟨⟨_, hm, rfl⟩, by simp⟩
  have hne : ofU l l[i].f0 ≠ 4 := by
    unfold ofU
    rw [hU]
    intro e
    have := (ofG4 hok.2.2.1 hok.2.2.2.1).1 e
    omega
  have h2 : s.2 = true := by
    cases hc : s.2 with
    | true => rfl
    | false => exact absurd ((hs.no hc).2 _ hin) hne
  refine ⟨h2, ?_⟩
  obtain ⟨h3, h4, h5⟩ := hs.yes h2
  obtain ⟨⟨y, hy, ey⟩, _⟩ := mem_numL.1 h3
  obtain ⟨r, hr1, hr2⟩ := at_some l s.1 (by omega)
  rcases hr2 with ⟨_, hr3⟩ | ⟨j, hj, rfl, hj2⟩
  · exact absurd ey (hr3 y hy)
  · have hmj := List.getElem_mem hj
    have hokj := h.ok _ hmj
    have hUj := U_mem h.nd hmj
    have h6 := h5 _ hin hne
    rw [← hj2] at h4 h6
    unfold fr at h6
    unfold ofU at h4
    rw [hUj, hU] at h6
    rw [hUj] at h4
    refine ⟨j, hj, hr1, ?_, ?_⟩
    · dsimp only at h6
      omega
    · by_cases c : l[j].f2 ≤ l[j].f1
      · exact absurd ((ofG4 hokj.2.2.1 hokj.2.2.2.1).2 c) h4
      · omega
theorem helps_worst {D : DataW Unit} {l : List S30} (h : RelD D l) (hl : l.length ≤ 1000000) (i : Nat) (hi : i < l.length) (hr : l[i].f2 - l[i].f1 > 0) (hu : l[i].f1 > 0) (s : Int × Bool) (hs : WorstN l (numL l []) s) :
    s.2 = true ∧ ∃ (j : Nat) (hj : j < l.length), gunnyref18_At.f (l.length + 1) l s.1 = some (j : Int) ∧ l[j].f1 ≤ l[i].f1 ∧ 1 ≤ l[j].f1 ∧ l[j].f1 < l[j].f2 := by
  have hm := List.getElem_mem hi
  have hok := h.ok _ hm
  have hU := U_mem h.nd hm
  have hin : l[i].f0 ∈ numL l [] := mem_numL.2 ⟨⟨_, hm, rfl⟩, by simp⟩
  have hne : mayW l l[i].f0 := by
    unfold mayW ofU
    rw [hU]
    refine ⟨fun e => ?_, fun e => ?_⟩
    · have := (ofG4 hok.2.2.1 hok.2.2.2.1).1 e
      omega
    · have := (ofG0 hok.2.2.1 hok.2.2.2.1 (by omega)).1 e
      omega
  have h2 : s.2 = true := by
    cases hc : s.2 with
    | true => rfl
    | false => exact absurd hne ((hs.no hc).2 _ hin)
  refine ⟨h2, ?_⟩
  obtain ⟨h3, h4, h5⟩ := hs.yes h2
  obtain ⟨⟨y, hy, ey⟩, _⟩ := mem_numL.1 h3
  obtain ⟨r, hr1, hr2⟩ := at_some l s.1 (by omega)
  rcases hr2 with ⟨_, hr3⟩ | ⟨j, hj, rfl, hj2⟩
  · exact absurd ey (hr3 y hy)
  · have hmj := List.getElem_mem hj
    have hokj := h.ok _ hmj
    have hUj := U_mem h.nd hmj
    have h6 := h5 _ hin hne
    rw [← hj2] at h4 h6
    unfold mayW ofU at h4
    rw [hUj, hU] at h6
    rw [hUj] at h4
    have c : ¬ l[j].f2 ≤ l[j].f1 := fun c => h4.1 ((ofG4 hokj.2.2.1 hokj.2.2.2.1).2 c)
    refine ⟨j, hj, hr1, ?_, ?_, by omega⟩
    · dsimp only at h6
      omega
    · by_cases c2 : l[j].f1 < 1
      · exact absurd ((ofG0 hokj.2.2.1 hokj.2.2.2.1 c).2 c2) h4.2
      · omega
/-- The five counts are all. -/
theorem counts_all (l : List S30) : cntF l 0 (numL l []) 0 + cntF l 1 (numL l []) 0 + cntF l 2 (numL l []) 0 + cntF l 3 (numL l []) 0 + cntF l 4 (numL l []) 0 = l.length := by
  have h := cnt_sum l (numL l [])
  rw [numL_len] at h
  rw [cntF_countP, cntF_countP, cntF_countP, cntF_countP, cntF_countP]
  omega
theorem sum5 (a0 a1 a2 a3 a4 n : Nat) (h : a0 + a1 + a2 + a3 + a4 = n) (hn : n ≤ 1000000) : ∃ z0 z1 z2 z3 z4 y1 y2 y3 : Int, z0 = (a0 : Int) ∧ z1 = (a1 : Int) ∧ z2 = (a2 : Int) ∧ z3 = (a3 : Int) ∧ z4 = (a4 : Int) ∧ wrap64 (z0 + z1) = y1 ∧ wrap64 (y1 + z2) = y2 ∧ wrap64 (y2 + z3) = y3 ∧ wrap64 (y3 + z4) = (n : Int) :=
  ⟨a0, a1, a2, a3, a4, (a0 : Int) + a1, (a0 : Int) + a1 + a2, (a0 : Int) + a1 + a2 + a3, rfl, rfl, rfl, rfl, rfl, w64r _ (by omega) (by omega), w64r _ (by omega) (by omega), w64r _ (by omega) (by omega), by
    have e : (a0 : Int) + a1 + a2 + a3 + a4 = (n : Int) := by omega
    rw [e]
    exact w64r _ (by omega) (by omega)⟩
theorem big_no {a : Int} (h : ¬ (a > 100000000 ∨ a < -100000000)) (w : World) : Calls Try.prog 6 #[.int .i64 a] w fun e w' => e = .returned (.bool false) ∧ Drawn0 w w' := by
  have := big_calls a w
  rw [decide_eq_false h] at this
  exact this
theorem big_yes {a : Int} (h : a > 100000000 ∨ a < -100000000) (w : World) : Calls Try.prog 6 #[.int .i64 a] w fun e w' => e = .returned (.bool true) ∧ Drawn0 w w' := by
  have := big_calls a w
  rw [decide_eq_true h] at this
  exact this
/-- The three cells of an entry that came in. -/
theorem at3 {W : World} {A : Option Addr} {ls : List S30} (hC : Kd.C k30 W A ls.length ls) (i : Nat) (hi : i < ls.length) : ∃ ad, A = some ad ∧ ∀ W', Below W.heap.size W W' → W'.cell? (ad.add (i * 3)) = some (.int .i64 ls[i].f0) ∧ W'.cell? ⟨(ad.add (i * 3)).block, (ad.add (i * 3)).off + 1, none⟩ = some (.int .i64 ls[i].f1) ∧ W'.cell? ⟨(ad.add (i * 3)).block, (ad.add (i * 3)).off + 2, none⟩ = some (.int .i64 ls[i].f2) := by
  obtain ⟨ad, eA, h0, h1, h2⟩ := at_T30 hC (i : Int) (by omega) (by omega)
  have e : rd_T30 ls (i : Int) = ls[i] := by unfold rd_T30; simp [hi]
  rw [e, Int.toNat_natCast] at h0 h1 h2
  exact ⟨ad, eA, fun W' hW => ⟨pw_cell_below hW h0, pw_cell_below hW h1, pw_cell_below hW h2⟩⟩

end Go.Proofs.Ytoljebdicjiogaa.Hand
