/- How full; Count, Room: walked. -/
import Derived.Test.YtoljebdicjiogaaG4
namespace Go.Proofs.Ytoljebdicjiogaa.Hand
set_option linter.unusedVariables false
set_option linter.unusedSimpArgs false
open Go.RowKit Go.Maps Go.Proofs.Ytoljebdicjiogaa.R Go.Proofs.YtoljebdicjiogaaW.PrintWords Go.Proofs.YtoljebdicjiogaaW.PrintLast Go.Proofs.YtoljebdicjiogaaW.PrintMore

theorem w64r (x : Int) (h1 : -9223372036854775808 ≤ x) (h2 : x ≤ 9223372036854775807) : wrap64 x = x := by unfold wrap64; omega
def small (u m : Int) : Prop := -100000000 ≤ u ∧ u ≤ 100000000 ∧ -100000000 ≤ m ∧ m ≤ 100000000
theorem thirds_some (m : Int) (h1 : 1 ≤ m) (h2 : m ≤ 100000000) : group_twoThirds.f m = some (thirds m) := by
  have e1 : Int.tmod m 3 = m % 3 := Int.tmod_eq_emod_of_nonneg (by omega)
  have e2 : Int.tdiv m 3 = m / 3 := Int.tdiv_eq_ediv_of_nonneg (by omega)
  unfold group_twoThirds.f thirds
  rw [e1, e2, w64r (m / 3) (by omega) (by omega), w64r (m - m / 3) (by omega) (by omega), w64r (m - m / 3 - 1) (by omega) (by omega)]
  by_cases h : m % 3 = 0
  · rw [if_pos h, if_pos h]
  · rw [if_neg h, if_neg h]
theorem of_some (u m : Int) (h : small u m) : group_Of.f 1 u m = some (ofG u m) := by
  obtain ⟨h1, h2, h3, h4⟩ := h
  unfold group_Of.f ofG
  by_cases c1 : m < 1
  · rw [if_pos c1, if_pos (Or.inl c1)]
    simp only [group_Of.j0]
    rfl
  · have e2 : Int.tdiv m 3 = m / 3 := Int.tdiv_eq_ediv_of_nonneg (by omega)
    rw [if_neg c1]
    by_cases c2 : m ≤ u
    · rw [if_pos (Or.inr c2), decide_eq_true (by omega : u ≥ m)]
      simp only [group_Of.j0]
      rfl
    · rw [if_neg (by omega : ¬ (m < 1 ∨ m ≤ u)), decide_eq_false (by omega : ¬ u ≥ m)]
      simp only [group_Of.j0, Bool.false_eq_true, if_false]
      rw [e2, w64r (m / 3) (by omega) (by omega), thirds_some m (by omega) h4]
      by_cases c3 : u < 1
      · rw [if_pos c3, if_pos c3]
      · rw [if_neg c3, if_neg c3]
        by_cases c4 : u ≤ m / 3
        · rw [if_pos c4, if_pos c4]
        · rw [if_neg c4, if_neg c4]
          show (if u ≤ thirds m then some 2 else some 3) = some (if u ≤ thirds m then 2 else 3)
          by_cases c5 : u ≤ thirds m
          · rw [if_pos c5, if_pos c5]
          · rw [if_neg c5, if_neg c5]
theorem refof_some (u m : Int) (h : small u m) : gunnyref18_Of.f 4 u m = some (ofR u m) := by
  obtain ⟨h1, h2, h3, h4⟩ := h
  unfold gunnyref18_Of.f ofR
  by_cases c1 : m < 1
  · rw [if_pos c1, if_pos (Or.inl c1)]
    simp only [gunnyref18_Of.j0]
    rfl
  · rw [if_neg c1]
    by_cases c2 : m ≤ u
    · rw [if_pos (Or.inr c2), decide_eq_true (by omega : u ≥ m)]
      simp only [gunnyref18_Of.j0]
      rfl
    · rw [if_neg (by omega : ¬ (m < 1 ∨ m ≤ u)), decide_eq_false (by omega : ¬ u ≥ m)]
      simp only [gunnyref18_Of.j0, Bool.false_eq_true, if_false]
      by_cases c3 : u < 1
      · rw [if_pos c3, if_pos c3]
      · rw [if_neg c3, if_neg c3]
        have w0 : wrap64 (0 + 1) = 1 := by decide +kernel
        have w1 : wrap64 (1 + 1) = 2 := by decide +kernel
        have w2 : wrap64 (1 + 0) = 1 := by decide +kernel
        have w3 : wrap64 (1 + 2) = 3 := by decide +kernel
        have a1 : wrap64 (3 * u) = 3 * u := w64r _ (by omega) (by omega)
        have a2 : wrap64 (1 * m) = m := by rw [Int.one_mul]; exact w64r _ (by omega) (by omega)
        have a3 : wrap64 (2 * m) = 2 * m := w64r _ (by omega) (by omega)
        simp only [gunnyref18_Of.l0]
        rw [if_pos (by decide), w0, a1, a2]
        by_cases c4 : 3 * u > m
        · rw [if_pos c4, if_pos c4, if_pos (by decide), w1, a3]
          by_cases c5 : 3 * u > 2 * m
          · rw [if_pos c5, if_pos c5, if_neg (by decide), w3]
            rfl
          · rw [if_neg c5, if_neg c5, if_neg (by decide)]
            rfl
        · have c5 : ¬ 3 * u > 2 * m := by omega
          rw [if_neg c4, if_neg c4, if_pos (by decide), w1, a3, if_neg c5, if_neg c5, if_neg (by decide), w2]
          rfl
theorem of_calls (u m : Int) (h : small u m) (w : World) : Calls Try.prog 8 #[.int .i64 u, .int .i64 m] w fun e w' => e = .returned (.int .i64 (ofG u m)) ∧ Drawn0 w w' := group_Of.calls 1 u m _ w (of_some u m h)
theorem refof_calls (u m : Int) (h : small u m) (w : World) : Calls Try.prog 9 #[.int .i64 u, .int .i64 m] w fun e w' => e = .returned (.int .i64 (ofR u m)) ∧ Drawn0 w w' := gunnyref18_Of.calls 4 u m _ w (refof_some u m h)

/-! what numbers have -/
theorem numL_mem {l : List S30} {but : List Int} {n : Int} (h : n ∈ numL l but) : ∃ y ∈ l, y.f0 = n := by
  unfold numL at h
  have h1 := (List.mem_filter.1 h).1
  unfold sortI at h1
  rw [List.mem_mergeSort, List.mem_map] at h1
  exact h1
theorem numL_length (l : List S30) (but : List Int) : (numL l but).length ≤ l.length := by
  unfold numL sortI
  refine Nat.le_trans (List.length_filter_le _ _) ?_
  rw [List.length_mergeSort, List.length_map]
  exact Nat.le_refl _
theorem RelD.U_ok {D : DataW Unit} {l : List S30} (h : RelD D l) (k : Int) : 0 ≤ (U l k).1 ∧ (U l k).1 ≤ (U l k).2 ∧ (U l k).2 ≤ 100000000 := by
  unfold U
  cases hf : l.find? (fun h => h.f0 == k) with
  | none => exact ⟨Int.le_refl _, Int.le_refl _, by show (0 : Int) ≤ 100000000; decide⟩
  | some y => exact (h.ok y (List.mem_of_find?_eq_some hf)).2.2
theorem RelD.U_small {D : DataW Unit} {l : List S30} (h : RelD D l) (k : Int) : small (U l k).1 (U l k).2 := by
  have := h.U_ok k
  unfold small
  omega
theorem free_calls (u m : Int) (h : small u m) (w : World) : Calls Try.prog 26 #[.agg #[.int .i64 u, .int .i64 m]] w fun e w' => e = .returned (.int .i64 (m - u)) ∧ Below w.heap.size w w' := by
  have e : wrap64 (m - u) = m - u := by obtain ⟨h1, h2, h3, h4⟩ := h; exact w64r _ (by omega) (by omega)
  refine group_has_free.calls u m (m - u) w ?_
  unfold group_has_free.f
  rw [e]

/-- How many are as full. -/
def cntF (l : List S30) (g : Int) (ns : List Int) (a : Nat) : Nat := ns.foldl (fun a n => if ofG (U l n).1 (U l n).2 = g then a + 1 else a) a
theorem cntF_drop (l : List S30) (g : Int) (ns : List Int) (i : Nat) (hi : i < ns.length) (a : Nat) : cntF l g (ns.drop i) a = cntF l g (ns.drop (i + 1)) (if ofG (U l ns[i]).1 (U l ns[i]).2 = g then a + 1 else a) := by
  unfold cntF
  rw [List.drop_eq_getElem_cons hi, List.foldl_cons]
theorem elemI {w : World} {B : Option Addr} {ps : List Int} (hP1 : Kd.C (Kd.int .i64) w B ps.length ps) (i : Nat) (hi : i < ps.length) : ∃ bd, B = some bd ∧ w.cell? (bd.add i) = some (.int .i64 ps[i]) := by
  obtain ⟨ad, cs, eA, hc1, hc2, hc3⟩ := hP1.get_ 0 (i : Int) (by omega) (by omega)
  refine ⟨ad, eA, ?_⟩
  have hk : cs = [.int .i64 ps[i]] := by
    have : ps.getD (i : Int).toNat 0 = ps[i] := by simp [hi]
    rw [this] at hc2
    exact hc2
  subst hk
  have := hc3 0 _ rfl
  simpa [Kd.int, Kd.scalar] using this
theorem wf_num {D : DataW Unit} {l : List S30} (h : RelD D l) {but : List Int} {n : Int} (hn : n ∈ numL l but) : 0 ≤ n ∧ n ≤ 4095 ∧ (Lit.int .i64 n).wf = true := by
  obtain ⟨y, hy, rfl⟩ := numL_mem hn
  have := h.ok y hy
  exact ⟨this.1, this.2.1, WalkArith.wf_i64 (by omega)⟩

set_option maxHeartbeats 8000000 in
set_option maxRecDepth 100000 in
theorem count_calls (bb mb n : Nat) (D : DataW Unit) (l : List S30) (g : Int) (w : World) (hB : BK w bb mb n D) (hR : RelD D l) (hn : n ≤ 100000) (hll : l.length ≤ 100000) :
    Calls Try.prog 13 #[.pointer (some ⟨bb, 0, none⟩), .int .i64 g] w fun e w' => e = .returned (.int .i64 ((cntF l g (numL l []) 0 : Nat) : Int)) ∧ Below w.heap.size w w' := by
  have hN := Aside0.mk (numbers_calls bb mb n D l none 0 [] w hB hR hn ⟨rfl, by simp, fun h => absurd h (Nat.lt_irrefl 0)⟩ (Nat.le_refl _) (by simp))
  have hwf : ∀ k ∈ numL l [], 0 ≤ k ∧ k ≤ 4095 ∧ (Lit.int .i64 k).wf = true := fun k hk => wf_num hR hk
  have hlen := Aside0.mk (Nat.le_trans (numL_length l []) hll)
  replace hB := Aside0.mk hB
  replace hR := Aside0.mk hR
  replace hwf := Aside0.mk hwf
  obtain ⟨ns, hns⟩ : ∃ ns, Aside0 (numL l [] = ns) := ⟨_, ⟨rfl⟩⟩
  rw [hns.out] at hN hwf hlen ⊢
  clear hn hll
  go_enter Try.func13, Try.ntmps13
  go_wp2_with (go_at_call 25; refine hN.out.mono ?_; rintro e w1 ⟨A', c', rfl, hC1, hb1⟩; replace hC1 := Aside0.mk hC1; replace hb1 := Aside0.mk hb1)
  go_loopg [5, 12] ns.length (fun kq v5 v12 w' => ∃ (a i : Nat), v5 = .int .i64 (a : Int) ∧ v12 = .int .i64 (i : Int) ∧ Aside0 (i + kq = ns.length ∧ a ≤ i ∧ cntF l g ns 0 = cntF l g (ns.drop i) a) ∧ Aside0 (Below w1.heap.size w1 w'))
  case atStart => exact ⟨0, 0, rfl, rfl, ⟨by omega, by omega, by simp⟩, ⟨Below.refl _ _⟩⟩
  case round =>
    obtain ⟨a, i, rfl, rfl, HK, HB⟩ := hrel
    cases gk with
    | zero =>
      obtain rfl : i = ns.length := by have := HK.out; omega
      have d3 : decide (((ns.length : Nat) : Int) < ((ns.length : Nat) : Int)) = false := decide_eq_false (by omega)
      have r := HK.out.2.2
      rw [List.drop_eq_nil_of_le (Nat.le_refl _)] at r
      replace r := Aside0.mk r
      go_wp2
      go_returns
      rw [r.out]
      exact ⟨rfl, below_step hb1.out HB.out⟩
    | succ k1 =>
      have hi : i < ns.length := by have := HK.out; omega
      have d3 : decide ((i : Int) < ((ns.length : Nat) : Int)) = true := decide_eq_true (by omega)
      have d4 : decide (0 ≤ (i : Int)) = true := decide_eq_true (by omega)
      have d6 : decide (i < ns.length) = true := decide_eq_true hi
      obtain ⟨bd, eB, hc⟩ := elemI (Kd.C_below hC1.out HB.out) i hi
      have hk := hwf.out _ (List.getElem_mem hi)
      have r := HK.out.2.2
      rw [cntF_drop l g ns i hi] at r
      generalize ns[i] = k at hc hk r
      subst eB
      have hBw := hB.out.below (below_step hb1.out HB.out)
      have kb : wr.cell? ⟨bb, 0, none⟩ = some (.map (some mb)) := (blk_cell hBw.blk 0).trans rfl
      have hlook := bk_look hBw hR.out k hk.2.2
      have hof := hR.out.U_small k
      obtain ⟨u, hu⟩ : ∃ u, u = (U l k).1 := ⟨_, rfl⟩
      obtain ⟨m, hm⟩ : ∃ m, m = (U l k).2 := ⟨_, rfl⟩
      rw [← hu, ← hm] at hlook hof r
      have hO := Aside0.mk (fun w => of_calls u m hof w)
      generalize ofG u m = z at hO r
      have ws := Aside0.mk (w64s i (by have := hlen.out; omega))
      have wa := Aside0.mk (w64s a (by have := hlen.out; have := HK.out; omega))
      have hbx := Aside0.mk (below_step HB.out (below_alloc (Below.refl _ wr) (.cells #[.int .i64 u, .int .i64 m] 51 (0, 0))))
      replace r := Aside0.mk r
      clear hu hm hof hk hBw
      by_cases hz : z = g
      · have b1 : (z == g) = true := beq_iff_eq.mpr hz
        have r2 := r.out
        rw [if_pos hz] at r2
        replace r2 := Aside0.mk r2
        clear hz
        go_wp2_with (go_at_call 8; refine (hO.out _).mono ?_; rintro e w2 ⟨rfl, hd2⟩; replace hd2 := Aside0.mk hd2.below)
        go_roundg k1
        case measure => omega
        case rel => exact ⟨a + 1, i + 1, by rw [wa.out], by rw [ws.out], ⟨by have := HK.out; omega, by have := HK.out; omega, r2.out⟩, ⟨below_step hbx.out hd2.out⟩⟩
      · have b1 : (z == g) = false := beq_eq_false_iff_ne.mpr hz
        have r2 := r.out
        rw [if_neg hz] at r2
        replace r2 := Aside0.mk r2
        clear hz
        go_wp2_with (go_at_call 8; refine (hO.out _).mono ?_; rintro e w2 ⟨rfl, hd2⟩; replace hd2 := Aside0.mk hd2.below)
        go_roundg k1
        case measure => omega
        case rel => exact ⟨a, i + 1, rfl, by rw [ws.out], ⟨by have := HK.out; omega, by have := HK.out; omega, r2.out⟩, ⟨below_step hbx.out hd2.out⟩⟩
end Go.Proofs.Ytoljebdicjiogaa.Hand
