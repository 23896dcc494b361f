/- The chapter's example: walked. -/
import Derived.Test.YtgcgnpinhlmmjaaA9
namespace Go.Proofs.Ytgcgnpinhlmmjaa.Hand
set_option linter.unusedVariables false
set_option linter.unusedSimpArgs false
open Go.RowKit Go.Maps Go.Proofs.Ytgcgnpinhlmmjaa.R Go.Proofs.Ytgcgnpinhlmmjaa.Va Go.Proofs.YtgcgnpinhlmmjaaW.PrintWords Go.Proofs.YtgcgnpinhlmmjaaW.PrintLast Go.Proofs.YtgcgnpinhlmmjaaW.PrintMore

def lx : List S25 := [⟨0, 3, 0, 0, []⟩, ⟨4, 0, 0, 0, [7]⟩, ⟨3, 0, 2, 0, []⟩]
theorem lx_run : (runL [] lx).2 = [⟨0, 0, []⟩, ⟨0, 0, []⟩, ⟨0, 0, [7, 0]⟩] := by kernel_rfl
theorem lx_ok : ∀ o ∈ lx, okO o := by
  intro o ho
  simp only [lx, List.mem_cons, List.not_mem_nil, or_false] at ho
  rcases ho with rfl | rfl | rfl <;> exact ⟨by decide, by decide, by simp⟩
def lcells (b : Nat) : Array Value := #[.int .i64 0, .int .i64 3, .int .i64 0, .int .u64 0, .slice none 0 0, .int .i64 4, .int .i64 0, .int .i64 0, .int .u64 0, .slice (some ⟨b, 0, none⟩) 1 1, .int .i64 3, .int .i64 0, .int .i64 2, .int .u64 0, .slice none 0 0]
theorem c_blk {W : World} {g t : Nat} {cs : Array Value} (h : W.heap[g]? = some (.cells cs t (0, 0))) (i : Nat) : W.cell? ((⟨g, 0, none⟩ : Addr).add i) = cs[i]? := by
  rw [← blk_cell h i]
  congr 1
  simp [Addr.add]
  try exact fun h => h.symm
theorem lx_C {W : World} {g b : Nat} (h : W.heap[g]? = some (.cells (lcells b) 25 (0, 0))) (h2 : W.heap[b]? = some (.cells #[.int .u8 7] 5 (0, 0))) : Kd.C k25 W (some ⟨g, 0, none⟩) lx.length lx := by
  refine ⟨rfl, by decide, fun _ => ⟨_, rfl, fun j p hj => ?_⟩⟩
  have hc := c_blk h
  match j, hj with
  | 0, hj =>
    obtain rfl : (⟨0, 3, 0, 0, []⟩ : S25) = p := Option.some.inj hj
    refine ⟨[.int .i64 0, .int .i64 3, .int .i64 0, .int .u64 0, .slice none 0 0], rfl, k25_mk W ⟨0, 3, 0, 0, []⟩ (A4 := none) (c4 := 0) (Nat.le_refl _) (Kd.C_nil _ _), fun i u hi => ?_⟩
    rw [show 0 * k25.sz + i = i by simp, hc i]
    match i, hi with
    | 0, hi => exact hi
    | 1, hi => exact hi
    | 2, hi => exact hi
    | 3, hi => exact hi
    | 4, hi => exact hi
  | 1, hj =>
    obtain rfl : (⟨4, 0, 0, 0, [7]⟩ : S25) = p := Option.some.inj hj
    have hC7 : Kd.C (Kd.int .u8) W (some ⟨b, 0, none⟩) [7].length [7] := by
      refine ⟨rfl, by decide, fun _ => ⟨_, rfl, fun j p hj => ?_⟩⟩
      match j, hj with
      | 0, hj =>
        obtain rfl : (7 : Int) = p := Option.some.inj hj
        refine ⟨[.int .u8 7], rfl, rfl, fun i u hi => ?_⟩
        match i, hi with
        | 0, hi =>
          have := c_blk h2 0
          exact this.trans hi
    refine ⟨[.int .i64 4, .int .i64 0, .int .i64 0, .int .u64 0, .slice (some ⟨b, 0, none⟩) 1 1], rfl, k25_mk W ⟨4, 0, 0, 0, [7]⟩ (A4 := some ⟨b, 0, none⟩) (c4 := 1) (Nat.le_refl _) hC7, fun i u hi => ?_⟩
    rw [show 1 * k25.sz + i = 5 + i by rw [Nat.one_mul]; rfl, hc (5 + i)]
    match i, hi with
    | 0, hi => exact hi
    | 1, hi => exact hi
    | 2, hi => exact hi
    | 3, hi => exact hi
    | 4, hi => exact hi
  | 2, hj =>
    obtain rfl : (⟨3, 0, 2, 0, []⟩ : S25) = p := Option.some.inj hj
    refine ⟨[.int .i64 3, .int .i64 0, .int .i64 2, .int .u64 0, .slice none 0 0], rfl, k25_mk W ⟨3, 0, 2, 0, []⟩ (A4 := none) (c4 := 0) (Nat.le_refl _) (Kd.C_nil _ _), fun i u hi => ?_⟩
    rw [show 2 * k25.sz + i = 10 + i from rfl, hc (10 + i)]
    match i, hi with
    | 0, hi => exact hi
    | 1, hi => exact hi
    | 2, hi => exact hi
    | 3, hi => exact hi
    | 4, hi => exact hi
theorem lx_F {W : World} {g b : Nat} (h : W.heap[g]? = some (.cells (lcells b) 25 (0, 0))) (h2 : W.heap[b]? = some (.cells #[.int .u8 7] 5 (0, 0))) : Kd.F k25 W (fun k => k = g ∨ k = b) (some ⟨g, 0, none⟩) lx.length lx := fun W' hW =>
  lx_C ((hW g (.inl rfl) (blk_lt h)).trans h) ((hW b (.inr rfl) (blk_lt h2)).trans h2)
set_option maxHeartbeats 8000000 in
set_option maxRecDepth 100000 in
theorem lives_calls (w : World) : Calls Try.prog 7 #[] w fun e w' => e = .returned (.bool true) ∧ Below w.heap.size w w' := by
  have hN := Aside0.mk (new_calls w)
  go_enter Try.func7, Try.ntmps7
  go_upto_region 2 with (go_at_call 13; refine hN.out.mono ?_; rintro e w1 ⟨rfl, hM, hb⟩; replace hM := Aside0.mk hM; replace hb := Aside0.mk hb)
  have q0 := blk_alloc (blk_new w1 (.cells #[.int .u8 7] 5 (0, 0))) (.cells (lcells w1.heap.size) 25 (0, 0))
  have q1 := blk_new (w1.alloc (.cells #[.int .u8 7] 5 (0, 0))) (.cells (lcells w1.heap.size) 25 (0, 0))
  rw [World.size_alloc] at q1
  have hb1 := below_alloc (below_alloc (Below.refl _ w1) (.cells #[.int .u8 7] 5 (0, 0))) (.cells (lcells w1.heap.size) 25 (0, 0))
  have hM1 := hM.out.below hb1
  have hlt := hM.out.own_lt
  have hD := Does_calls _ _ _ 0 _ [] _ lx lx_ok (by decide) (some ⟨w1.heap.size + 1, 0, none⟩) 3 _ hM1 (by decide) _ (lx_F q1 q0) (fun k hk hm => by
    have := (hlt k (.inr hm)).2
    omega)
  rw [lx_run] at hD
  unfold lcells at hD hb1
  replace hD := Aside0.mk hD
  replace hb1 := Aside0.mk hb1
  clear q0 q1 hM1 hlt
  go_upto_region 3 with (go_at_call 14; refine hD.out.mono ?_; rintro e w2 ⟨v, rfl, hdi⟩; replace hdi := Aside0.mk hdi)
  obtain ⟨B2, m1, m2, m3, m4⟩ := hdi.out.out
  obtain ⟨inner, ho⟩ := Kd.R_own m4
  obtain ⟨g, cv, ev⟩ : ∃ (g cv : Nat), v = .slice (some ⟨g, 0, none⟩) 3 cv := by
    rcases ho.2 with ⟨hv, hl⟩ | ⟨g, cap, cur, hv, _⟩
    · exfalso
      simp at hl
    · exact ⟨g, cap, hv⟩
  subst ev
  clear ho
  have hr := Kd.R_reads' m4
  have hC := hr.2.2
  obtain ⟨ad, A0, c0, eA, z0, z1, z2, zl, z3⟩ := at_T28 hC 0 (by decide) (by decide)
  cases eA
  obtain ⟨ad1, A1, c1, eA, y0, y1, y2, yl, y3⟩ := at_T28 hC 1 (by decide) (by decide)
  cases eA
  obtain ⟨ad2, A2, c2, eA, x0, x1, x2, xl, x3⟩ := at_T28 hC 2 (by decide) (by decide)
  cases eA
  replace z0 : w2.cell? ⟨g, 0, none⟩ = some (.int .i64 0) := z0
  replace y0 : w2.cell? ⟨g, 3, none⟩ = some (.int .i64 0) := y0
  replace x2 : w2.cell? ⟨g, 8, none⟩ = some (.slice A2 2 c2) := x2
  have hst := Kd.C_string (P := Try.prog) (c := c2) Try.underlying23 Try.underlying5 Try.underlying9 x3
  replace hst : (convert 23 9 (.slice A2 2 c2)).run Try.prog w2 = .ok (.string ⟨#[7, 0]⟩) w2 := hst
  have hB := Aside0.mk (((hb.out).trans (Below_low hb1.out hb.out.size)).trans (m3.below (B := w.heap.size) (by have := hb.out.size; have := hb1.out.size; omega) (fun i hi => by
    rcases hi with e | ⟨p, hp, _⟩
    · rw [e]; exact Nat.le_refl _
    · cases hp)))
  replace hr : 3 ≤ cv := hr.2.1
  clear m1 m2 m3 m4 hC z1 z2 y1 y2 x0 x1 z3 y3 x3 hD hdi hM hb hb1 hN zl yl xl
  go_wp2
  go_returns
  exact ⟨rfl, hB.out⟩
end Go.Proofs.Ytgcgnpinhlmmjaa.Hand
