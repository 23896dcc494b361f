/- clock's Turn, walked by hand: where nobody is asked, and where nobody is there to ask. -/
import Derived.Test.YtmmnkanijdbgpaaC2
import Derived.Deep.QuietTactic
import Derived.BigQuiet
namespace Go.Proofs.Ytmmnkanijdbgpaa.Hand
set_option linter.unusedVariables false
set_option linter.unusedSimpArgs false
open Go.RowKit Go.Proofs.Ytmmnkanijdbgpaa.R Go.Proofs.YtmmnkanijdbgpaaW.PrintWords Go.Proofs.YtmmnkanijdbgpaaW.PrintLast Go.Proofs.YtmmnkanijdbgpaaW.PrintMore

set_option maxHeartbeats 8000000 in
set_option maxRecDepth 100000 in
theorem turn_none (g : Nat) (L : List Int) (hL : L.length = 98) (h : Nat) (hh : L.getD 96 0 = (h : Int)) (h96 : h < 96) (sp : Value) (A : Option Addr) (c : Nat) (but : List Int) (w : World) (hb : CS w g L) (hC : Kd.C (Kd.int .i64) w A but.length but) (hc : but.length ≤ c) (hbl : but.length < 9223372036854775807) (hno : rnd L but h 96 = []) :
    Calls Try.prog 10 #[.pointer (some ⟨g, 0, none⟩), sp, .slice A but.length c] w fun e w' => e = .returned (.tuple #[.int .i64 0, .bool false]) ∧ Below w.heap.size w w' := by
  have hr := Aside0.mk (round_calls g L hL h hh h96 A c but w hb hC hc hbl)
  rw [hno] at hr
  clear hL hh hb hC hc hbl hno
  go_enter Try.func10, Try.ntmps10
  go_wp2_with (first | (go_at_call 24; refine hr.out.mono ?_; rintro e w2 ⟨v, rfl, hrow, hb2⟩; obtain ⟨A2, c2, e2⟩ := Kd.R_slice hrow; subst e2; replace hb2 := Aside0.mk hb2; clear hrow))
  go_returns
  exact ⟨rfl, hb2.out⟩

theorem eql_nil (w : World) : (binOp .eql 34 .nilFunc .nilFunc).run Try.prog w = .ok (.bool true) w := by first | rfl | kernel_rfl
theorem eql_func (f : Fn) (a b : Array Value) (w : World) : (binOp .eql 34 (.func f a b) .nilFunc).run Try.prog w = .ok (.bool false) w := by first | rfl | kernel_rfl
theorem w96 (x : Nat) (h : x < 96) : wrap64 ((x : Int) + 1) = ((x + 1 : Nat) : Int) := by unfold wrap64; omega
set_option maxHeartbeats 8000000 in
set_option maxRecDepth 100000 in
theorem turn_nil (g : Nat) (L : List Int) (hL : L.length = 98) (h : Nat) (hh : L.getD 96 0 = (h : Int)) (h96 : h < 96) (A : Option Addr) (c : Nat) (but : List Int) (w : World) (hb : CS w g L) (hC : Kd.C (Kd.int .i64) w A but.length but) (hc : but.length ≤ c) (hbl : but.length < 9223372036854775807) (x : Nat) (r : List Int) (hx : rnd L but h 96 = (x : Int) :: r) (hx96 : x < 96) :
    Calls Try.prog 10 #[.pointer (some ⟨g, 0, none⟩), .nilFunc, .slice A but.length c] w fun e w' => e = .returned (.tuple #[.int .i64 (x : Int), .bool true]) ∧ CS w' g (L.set 96 (((x + 1) % 96 : Nat) : Int)) ∧ Far (fun y => y = g) w w' := by
  have hr := Aside0.mk (round_calls g L hL h hh h96 A c but w hb hC hc hbl)
  have hrl := rnd_length L but h 96
  rw [hx] at hr hrl
  obtain ⟨xs, hxs⟩ : ∃ xs, xs = (x : Int) :: r := ⟨_, rfl⟩
  have hx0 : 0 < xs.length := by rw [hxs]; simp
  have hxg : xs.getD 0 0 = (x : Int) := by rw [hxs]; rfl
  rw [← hxs] at hr hrl
  have hb' := Aside0.mk hb
  have hal : (xs.length + xs.length) * 8 ≤ 140737488355328 := by omega
  have hlz : ((xs.length : Int) == 0) = false := beq_eq_false_iff_ne.mpr (by omega)
  have hd0 : decide (0 < xs.length) = true := decide_eq_true hx0
  have hd1 : decide ((0 : Int) < (xs.length : Int)) = true := decide_eq_true (by omega)
  replace hal := Aside0.mk hal
  replace hx0 := Aside0.mk hx0
  replace hxg := Aside0.mk hxg
  replace hrl := Aside0.mk hrl
  replace hL := Aside0.mk hL
  clear hh hb hC hc hbl hx hxs
  go_enter Try.func10, Try.ntmps10
  go_upto_region 4 with (first | (go_at_call 24; refine hr.out.mono ?_; rintro e w2 ⟨v, rfl, hrow, hb2⟩; obtain ⟨A2, c2, e2⟩ := Kd.R_slice1 hrow hx0.out; subst e2; replace hb2 := Aside0.mk hb2; replace hrow := Aside0.mk hrow))
  obtain ⟨b, rfl⟩ := Kd.R_head hrow.out
  obtain ⟨kb, fb⟩ := Kd.R_celln (0 : Int) hrow.out 0 (by omega) (by have := hx0.out; omega)
  have e0 : rdOf (0 : Int) xs 0 = (x : Int) := hxg.out
  rw [e0] at kb
  have kb0 : w2.cell? ⟨b, 0, none⟩ = some (.int .i64 (x : Int)) := kb
  have hC2 := Aside0.mk (Kd.R_reads' hrow.out).2.2
  have hcl := Aside0.mk (slices_Clone_int_int.calls ⟨b, 0, none⟩ c2 xs xs w2 hC2.out (Kd.R_reads' hrow.out).2.1 (by unfold slices_Clone_int_int.f; rw [Option.bind_some, if_pos (by have := hal.out; simp; omega), List.nil_append]))
  clear kb fb
  have hp0 : 0 < xs.length := hx0.out
  go_upto_region 5 with (fail)
  go_wp2_with (first | (go_at_call 25; refine hcl.out.mono ?_; rintro e w3 ⟨v3, rfl, hrow3, hb3⟩; obtain ⟨A3, c3, e3⟩ := Kd.R_slice hrow3; subst e3; have hC3 := Aside0.mk (Kd.C_below hC2.out hb3); have hrow3' := Aside0.mk (Kd.R_lower hrow3 hb2.out.size); have hb3' := Aside0.mk (hb2.out.trans (Far.below (Far.of_below (S := fun _ => False) hb3) hb2.out.size (fun _ h => h.elim))); clear hrow3 hb3 kb0) | ((with_reducible refine gate_builtin (b := .append) (xs := #[.tmp 22, .tmp 23]) rfl ?_); at_builtin; refine Kd.R_append_rows (Kd.int .i64) (w0 := w) w.heap.size rfl (.tmp 22) (.tmp 23) 26 3 (.int .i64 0) 8 rfl Try.underlying26 info3 rfl (by decide) (by omega) (.slice A3 xs.length c3) xs xs _ _ _ (fun _ => True) (fun _ => False) rfl rfl ?aO ?aR (fun _ _ h => h) (fun _ h => h.elim) ?aF ?aB ?aS ?aL ?_; (case aR => exact hC3.out); (case aB => exact hb3'.out); (case aF => exact (fun _ _ => trivial)); (case aO => exact hrow3'.out); (case aS => exact hb3'.out.size); (case aL => exact hal.out); intro v4 w4 ho hb4 hg hat; have hl4 : (xs ++ xs).length = xs.length + xs.length := List.length_append; obtain ⟨A4, c4, e4⟩ := Kd.R_slice1 ho (by omega); obtain ⟨b4, rfl⟩ := Kd.R_head (by rw [e4] at ho; exact ho); rw [hl4] at e4; subst e4; have hrow4 := Aside0.mk ho; have hb4' := Aside0.mk hb4; clear ho hb4 hg hat hl4))
  obtain ⟨kb4, _⟩ := Kd.R_celln (0 : Int) hrow4.out 0 (by omega) (by omega)
  have e4 : rdOf (0 : Int) (xs ++ xs) 0 = (x : Int) := by
    have := hxg.out
    unfold rdOf
    cases xs with
    | nil => exact absurd hp0 (by simp)
    | cons y ys => exact this
  rw [e4] at kb4
  have kb0 : w4.cell? ⟨b4, 0, none⟩ = some (.int .i64 (x : Int)) := kb4
  clear kb4 e4
  have hcs4 := Aside0.mk (blk_below hb'.out hb4'.out)
  have k96 := ints_cell hcs4.out 96 (by have := hL.out; omega)
  have f96 := blk_frozen hcs4.out 96
  generalize L.getD 96 0 = q at k96
  have hm : Int.tmod ((x : Int) + 1) 96 = (((x + 1) % 96 : Nat) : Int) := by rw [Int.tmod_eq_emod_of_nonneg (by omega)]; omega
  have hd2 : decide ((0 : Int) < (xs.length : Int) + (xs.length : Int)) = true := decide_eq_true (by omega)
  have hd3 : decide (0 < xs.length + xs.length) = true := decide_eq_true (by omega)
  have hp2 : (0 : Int) < (xs.length : Int) + (xs.length : Int) := by omega
  go_loopg [26] 0 (fun kq v26 w' => v26 = .int .i64 0 ∧ w' = w4)
  case atStart => exact ⟨rfl, rfl⟩
  case round =>
    obtain ⟨rfl, rfl⟩ := hrel
    have qf := eql_nil
    go_wp2
    go_returns
    exact ⟨rfl, ints_set hcs4.out 96 _, (Far.of_below hb4'.out).set1 96 _⟩

/-- Who is told, of some that are asked one behind the other. -/
def askAll {σ : Type} (ask : σ → Int → Bool) (nxt : σ → Int → σ) : σ → List Int → σ × Option Int
  | s, [] => (s, none)
  | s, f :: r => if ask s f then askAll ask nxt (nxt s f) r else (nxt s f, some f)
theorem rnd_mem (L but : List Int) (h k : Nat) : ∀ y ∈ rnd L but h k, ∃ f : Nat, y = (f : Int) ∧ f < 96 := by
  induction k with
  | zero => intro y hy; cases hy
  | succ k ih =>
    intro y hy
    rw [rnd_succ] at hy
    split at hy
    · rcases List.mem_append.1 hy with hy | hy
      · exact ih y hy
      · exact ⟨(h + k) % 96, List.mem_singleton.1 hy, by omega⟩
    · exact ih y hy

set_option maxHeartbeats 8000000 in
set_option maxRecDepth 100000 in
theorem turn_lives {σ : Type} (P : σ → World → Prop) (ask : σ → Int → Bool) (nxt : σ → Int → σ) (hcb : Nat) (hP : ∀ s W W', P s W → Below W.heap.size W W' → P s W')
    (hK : ∀ s (f : Nat) W, P s W → f < 96 → Calls Try.prog 22 #[.int .i64 (f : Int), .pointer (some ⟨hcb, 0, none⟩)] W fun e w' => e = .returned (.bool (ask s (f : Int))) ∧ P (nxt s (f : Int)) w' ∧ Far (fun k => k = hcb) W w') (s0 : σ) (g : Nat) (hG : ∀ s W i u, P s W → P s (W.setCell ⟨g, i, none⟩ u)) (L : List Int) (hL : L.length = 98) (h : Nat) (hh : L.getD 96 0 = (h : Int)) (h96 : h < 96) (A : Option Addr) (c : Nat) (but : List Int) (w : World) (hb : CS w g L) (hC : Kd.C (Kd.int .i64) w A but.length but) (hc : but.length ≤ c) (hbl : but.length < 9223372036854775807) (x : Nat) (r : List Int) (hx : rnd L but h 96 = (x : Int) :: r) (hx96 : x < 96) (hp : P s0 w) (hcg : hcb ≠ g) (hcw : hcb < w.heap.size) :
    Calls Try.prog 10 #[.pointer (some ⟨g, 0, none⟩), .func (.func 22) #[] #[.pointer (some ⟨hcb, 0, none⟩)], .slice A but.length c] w fun e w' => ∃ (y : Nat), y < 96 ∧ e = .returned (.tuple #[.int .i64 (y : Int), .bool true]) ∧ (y : Int) = ((askAll ask nxt s0 (rnd L but h 96 ++ rnd L but h 96)).2.getD (x : Int)) ∧ P (askAll ask nxt s0 (rnd L but h 96 ++ rnd L but h 96)).1 w' ∧ CS w' g (L.set 96 (((y + 1) % 96 : Nat) : Int)) ∧ Far (fun k => k = g ∨ k = hcb) w w' := by
  have hmem := Aside0.mk (rnd_mem L but h 96)
  have hr := Aside0.mk (round_calls g L hL h hh h96 A c but w hb hC hc hbl)
  have hrl := rnd_length L but h 96
  obtain ⟨zz, hzz⟩ : ∃ zz, zz = rnd L but h 96 := ⟨_, rfl⟩
  rw [← hzz] at hmem hr hrl hx ⊢
  subst hx
  obtain ⟨xs, hxs⟩ : ∃ xs, xs = (x : Int) :: r := ⟨_, rfl⟩
  have hx0 : 0 < xs.length := by rw [hxs]; simp
  have hxg : xs.getD 0 0 = (x : Int) := by rw [hxs]; rfl
  rw [← hxs] at hr hrl hmem ⊢
  have hb' := Aside0.mk hb
  have hal : (xs.length + xs.length) * 8 ≤ 140737488355328 := by omega
  have hlz : ((xs.length : Int) == 0) = false := beq_eq_false_iff_ne.mpr (by omega)
  have hd0 : decide (0 < xs.length) = true := decide_eq_true hx0
  have hd1 : decide ((0 : Int) < (xs.length : Int)) = true := decide_eq_true (by omega)
  replace hal := Aside0.mk hal
  replace hx0 := Aside0.mk hx0
  replace hxg := Aside0.mk hxg
  replace hrl := Aside0.mk hrl
  replace hL := Aside0.mk hL
  have hp' := Aside0.mk hp
  have hcw' := Aside0.mk hcw
  clear hp hcw
  clear hh hb hC hc hbl hxs hzz
  go_enter Try.func10, Try.ntmps10
  go_upto_region 4 with (first | (go_at_call 24; refine hr.out.mono ?_; rintro e w2 ⟨v, rfl, hrow, hb2⟩; obtain ⟨A2, c2, e2⟩ := Kd.R_slice1 hrow hx0.out; subst e2; replace hb2 := Aside0.mk hb2; replace hrow := Aside0.mk hrow))
  obtain ⟨b, rfl⟩ := Kd.R_head hrow.out
  obtain ⟨kb, fb⟩ := Kd.R_celln (0 : Int) hrow.out 0 (by omega) (by have := hx0.out; omega)
  have e0 : rdOf (0 : Int) xs 0 = (x : Int) := hxg.out
  rw [e0] at kb
  have kb0 : w2.cell? ⟨b, 0, none⟩ = some (.int .i64 (x : Int)) := kb
  have hC2 := Aside0.mk (Kd.R_reads' hrow.out).2.2
  have hcl := Aside0.mk (slices_Clone_int_int.calls ⟨b, 0, none⟩ c2 xs xs w2 hC2.out (Kd.R_reads' hrow.out).2.1 (by unfold slices_Clone_int_int.f; rw [Option.bind_some, if_pos (by have := hal.out; simp; omega), List.nil_append]))
  clear kb fb
  have hp0 : 0 < xs.length := hx0.out
  go_upto_region 5 with (fail)
  go_wp2_with (first | (go_at_call 25; refine hcl.out.mono ?_; rintro e w3 ⟨v3, rfl, hrow3, hb3⟩; obtain ⟨A3, c3, e3⟩ := Kd.R_slice hrow3; subst e3; have hC3 := Aside0.mk (Kd.C_below hC2.out hb3); have hrow3' := Aside0.mk (Kd.R_lower hrow3 hb2.out.size); have hb3' := Aside0.mk (hb2.out.trans (Far.below (Far.of_below (S := fun _ => False) hb3) hb2.out.size (fun _ h => h.elim))); clear hrow3 hb3 kb0) | ((with_reducible refine gate_builtin (b := .append) (xs := #[.tmp 22, .tmp 23]) rfl ?_); at_builtin; refine Kd.R_append_rows (Kd.int .i64) (w0 := w) w.heap.size rfl (.tmp 22) (.tmp 23) 26 3 (.int .i64 0) 8 rfl Try.underlying26 info3 rfl (by decide) (by omega) (.slice A3 xs.length c3) xs xs _ _ _ (fun _ => True) (fun _ => False) rfl rfl ?aO ?aR (fun _ _ h => h) (fun _ h => h.elim) ?aF ?aB ?aS ?aL ?_; (case aR => exact hC3.out); (case aB => exact hb3'.out); (case aF => exact (fun _ _ => trivial)); (case aO => exact hrow3'.out); (case aS => exact hb3'.out.size); (case aL => exact hal.out); intro v4 w4 ho hb4 hg hat; have hl4 : (xs ++ xs).length = xs.length + xs.length := List.length_append; obtain ⟨A4, c4, e4⟩ := Kd.R_slice1 ho (by omega); obtain ⟨b4, rfl⟩ := Kd.R_head (by rw [e4] at ho; exact ho); rw [hl4] at e4; subst e4; have hrow4 := Aside0.mk ho; have hb4' := Aside0.mk hb4; clear ho hb4 hg hat hl4))
  obtain ⟨kb4, _⟩ := Kd.R_celln (0 : Int) hrow4.out 0 (by omega) (by omega)
  have e4 : rdOf (0 : Int) (xs ++ xs) 0 = (x : Int) := by
    have := hxg.out
    unfold rdOf
    cases xs with
    | nil => exact absurd hp0 (by simp)
    | cons y ys => exact this
  rw [e4] at kb4
  have kb0 : w4.cell? ⟨b4, 0, none⟩ = some (.int .i64 (x : Int)) := kb4
  clear kb4 e4
  have hcs4 := Aside0.mk (blk_below hb'.out hb4'.out)
  have hp4 := Aside0.mk (hP s0 w w4 hp'.out hb4'.out)
  have hfar4 := Aside0.mk (Far.of_below (S := fun k => k = hcb) hb4'.out)
  have hm2 : ∀ y ∈ xs ++ xs, ∃ f : Nat, y = (f : Int) ∧ f < 96 := fun y hy => by
    rcases List.mem_append.1 hy with h' | h' <;> exact hmem.out y h'
  replace hm2 := Aside0.mk hm2
  have hll : (xs ++ xs).length = xs.length + xs.length := List.length_append
  replace hll := Aside0.mk hll
  have hfixL := hL
  clear kb0
  go_loopg [9, 26] (xs.length + xs.length) (fun kq v9 v26 w' => ∃ (i : Nat) (s : σ), v9 = .int .i64 (x : Int) ∧ v26 = .int .i64 (i : Int) ∧ Aside0 (i + kq = xs.length + xs.length) ∧ Aside0 (askAll ask nxt s0 (xs ++ xs) = askAll ask nxt s ((xs ++ xs).drop i)) ∧ Aside0 (P s w') ∧ Aside0 (CS w' g L) ∧ Aside0 (RI w' w.heap.size (fun _ => True) (.slice (some ⟨b4, 0, none⟩) (xs.length + xs.length) c4) (xs ++ xs)) ∧ Aside0 (Far (fun k => k = hcb) w w'))
  case atStart => exact ⟨0, s0, rfl, rfl, ⟨by omega⟩, ⟨rfl⟩, hp4, hcs4, ⟨by rw [← hll.out]; exact hll.out ▸ hrow4.out⟩, hfar4⟩
  case round =>
    obtain ⟨i, s, rfl, rfl, HK, HA, HP, HC, HR, HF⟩ := hrel
    clear hcs4 hp4 hfar4 hrow4
    have f96 := blk_frozen HC.out 96
    have k96 := ints_cell HC.out 96 (by have := hL.out; omega)
    generalize L.getD 96 0 = q at k96
    cases gk with
    | zero =>
      obtain rfl : i = xs.length + xs.length := by have := HK.out; omega
      have e1 : decide (((xs.length + xs.length : Nat) : Int) < (xs.length : Int) + (xs.length : Int)) = false := decide_eq_false (by omega)
      have e2 : ¬ ((xs.length : Int) + (xs.length : Int) < (xs.length : Int) + (xs.length : Int)) := by omega
      have hm : Int.tmod ((x : Int) + 1) 96 = (((x + 1) % 96 : Nat) : Int) := by rw [Int.tmod_eq_emod_of_nonneg (by omega)]; omega
      have hA := HA.out
      rw [List.drop_of_length_le (by rw [hll.out]; exact Nat.le_refl _)] at hA
      replace hA := Aside0.mk hA
      go_wp2
      go_returns
      rw [hA.out]
      exact ⟨x, hx96, rfl, rfl, hG _ _ 96 _ HP.out, ints_set HC.out 96 _, (HF.out.mono (fun _ h => .inr h)).setS (.inl rfl) 96 _⟩
    | succ k =>
      have hi : i < xs.length + xs.length := by have := HK.out; omega
      have e1 : decide ((i : Int) < (xs.length : Int) + (xs.length : Int)) = true := decide_eq_true (by omega)
      have e2 : (i : Int) < (xs.length : Int) + (xs.length : Int) := by omega
      have e3 : (0 : Int) ≤ (i : Int) := by omega
      have hi2 : i < (xs ++ xs).length := by rw [hll.out]; exact hi
      obtain ⟨f, hf, hf96⟩ := hm2.out (xs ++ xs)[i] (List.getElem_mem hi2)
      obtain ⟨kb4, _⟩ := Kd.R_celln (0 : Int) HR.out (i : Int) (by omega) (by omega)
      have e4 : rdOf (0 : Int) (xs ++ xs) (i : Int) = (f : Int) := by rw [← hf]; unfold rdOf; rw [Int.toNat_natCast, List.getD_eq_getElem?_getD, List.getElem?_eq_getElem hi2]; rfl
      rw [e4, Int.toNat_natCast] at kb4
      have hA := HA.out
      rw [List.drop_eq_getElem_cons hi2, hf] at hA
      have hKc := Aside0.mk (hK s f wr HP.out hf96)
      have ws := Aside0.mk (w64s i (by have := hrl.out; omega))
      have hi' : i < 1000000 := by have := hrl.out; omega
      have qf := eql_func
      cases hb : ask s (f : Int) with
      | true =>
        rw [hb] at hKc
        have hA2 : askAll ask nxt s0 (xs ++ xs) = askAll ask nxt (nxt s (f : Int)) ((xs ++ xs).drop (i + 1)) := by rw [hA]; show (if ask s (f : Int) then _ else _) = _; rw [hb]; rfl
        replace hA2 := Aside0.mk hA2
        clear hA e4 hf
        go_wp2_with (go_at_call 22; refine hKc.out.mono ?_; rintro e w5 ⟨rfl, hp5, hf5⟩; replace hp5 := Aside0.mk hp5; replace hf5 := Aside0.mk hf5)
        go_roundg k
        case measure => omega
        case rel => exact ⟨i + 1, _, rfl, by first | rw [ws.out] | rfl, ⟨by have := HK.out; omega⟩, hA2, hp5, ⟨hf5.out.blk HC.out (fun e => hcg e.symm)⟩, ⟨Kd.R_mono (Kd.R_step (Kd.R_tight rfl HR.out) (fun k hk hlt => hf5.out.block k hlt (fun e => by have := Kd.R_base HR.out k hk.symm; have := hcw'.out; omega))) (fun _ _ => trivial)⟩, ⟨HF.out.then_ hf5.out⟩⟩
      | false =>
        rw [hb] at hKc
        have hA2 : askAll ask nxt s0 (xs ++ xs) = (nxt s (f : Int), some (f : Int)) := by rw [hA]; show (if ask s (f : Int) then _ else _) = _; rw [hb]; rfl
        replace hA2 := Aside0.mk hA2
        have hm : Int.tmod ((f : Int) + 1) 96 = (((f + 1) % 96 : Nat) : Int) := by rw [Int.tmod_eq_emod_of_nonneg (by omega)]; omega
        clear hA e4 hf k96 f96
        go_upto_region 11 with (go_at_call 22; refine hKc.out.mono ?_; rintro e w5 ⟨rfl, hp5, hf5⟩; replace hp5 := Aside0.mk hp5; replace hf5 := Aside0.mk hf5)
        have HC5 := Aside0.mk (hf5.out.blk HC.out (fun e => hcg e.symm))
        have f96 := blk_frozen HC5.out 96
        have k96 := ints_cell HC5.out 96 (by have := hL.out; omega)
        generalize L.getD 96 0 = q at k96
        go_wp2
        go_returns
        rw [hA2.out]
        exact ⟨f, hf96, rfl, rfl, hG _ _ 96 _ hp5.out, ints_set HC5.out 96 _, ((HF.out.then_ hf5.out).mono (fun _ h => .inr h)).setS (.inl rfl) 96 _⟩

end Go.Proofs.Ytmmnkanijdbgpaa.Hand
