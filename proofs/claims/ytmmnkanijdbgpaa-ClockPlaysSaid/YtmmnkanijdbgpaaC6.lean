/- ClockFair, parts: Turn with the closure of the law; what turns tell; no walk of the law. -/
import Derived.Test.YtmmnkanijdbgpaaC5
namespace Go.Proofs.Ytmmnkanijdbgpaa.Hand
set_option linter.unusedVariables false
set_option linter.unusedSimpArgs false
open Go.RowKit Go.Proofs.Ytmmnkanijdbgpaa.R Go.Proofs.YtmmnkanijdbgpaaW.PrintWords Go.Proofs.YtmmnkanijdbgpaaW.PrintLast Go.Proofs.YtmmnkanijdbgpaaW.PrintMore

set_option maxHeartbeats 8000000 in
set_option maxRecDepth 100000 in
theorem turn_fair {σ : Type} (P : σ → World → Prop) (ask : σ → Int → Bool) (nxt : σ → Int → σ) (hcb : Nat) (hP : ∀ s W W', P s W → Below W.heap.size W W' → P s W')
    (hK : ∀ s (f : Nat) W, P s W → f < 96 → Calls Try.prog 11 #[.int .i64 (f : Int), .pointer (some ⟨hcb, 0, none⟩)] W fun e w' => e = .returned (.bool (ask s (f : Int))) ∧ P (nxt s (f : Int)) w' ∧ Far (fun k => k = hcb) W w') (s0 : σ) (g : Nat) (hG : ∀ s W i u, P s W → P s (W.setCell ⟨g, i, none⟩ u)) (L : List Int) (hL : L.length = 98) (h : Nat) (hh : L.getD 96 0 = (h : Int)) (h96 : h < 96) (A : Option Addr) (c : Nat) (but : List Int) (w : World) (hb : CS w g L) (hC : Kd.C (Kd.int .i64) w A but.length but) (hc : but.length ≤ c) (hbl : but.length < 9223372036854775807) (x : Nat) (r : List Int) (hx : rnd L but h 96 = (x : Int) :: r) (hx96 : x < 96) (hp : P s0 w) (hcg : hcb ≠ g) (hcw : hcb < w.heap.size) :
    Calls Try.prog 10 #[.pointer (some ⟨g, 0, none⟩), .func (.func 11) #[] #[.pointer (some ⟨hcb, 0, none⟩)], .slice A but.length c] w fun e w' => ∃ (y : Nat), y < 96 ∧ e = .returned (.tuple #[.int .i64 (y : Int), .bool true]) ∧ (y : Int) = ((askAll ask nxt s0 (rnd L but h 96 ++ rnd L but h 96)).2.getD (x : Int)) ∧ P (askAll ask nxt s0 (rnd L but h 96 ++ rnd L but h 96)).1 w' ∧ CS w' g (L.set 96 (((y + 1) % 96 : Nat) : Int)) ∧ Far (fun k => k = g ∨ k = hcb) w w' := by
  have hmem := Aside0.mk (rnd_mem L but h 96)
  have hr := Aside0.mk (round_calls g L hL h hh h96 A c but w hb hC hc hbl)
  have hrl := rnd_length L but h 96
  obtain ⟨zz, hzz⟩ : ∃ zz, zz = rnd L but h 96 := ⟨_, rfl⟩
  rw [← hzz] at hmem hr hrl hx ⊢
  subst hx
  obtain ⟨xs, hxs⟩ : ∃ xs, xs = (x : Int) :: r := ⟨_, rfl⟩
  have hx0 : 0 < xs.length := by rw [hxs]; simp
  have hxg : xs.getD 0 0 = (x : Int) := by rw [hxs]; rfl
  rw [← hxs] at hr hrl hmem ⊢
  have hb' := Aside0.mk hb
  have hal : (xs.length + xs.length) * 8 ≤ 140737488355328 := by omega
  have hlz : ((xs.length : Int) == 0) = false := beq_eq_false_iff_ne.mpr (by omega)
  have hd0 : decide (0 < xs.length) = true := decide_eq_true hx0
  have hd1 : decide ((0 : Int) < (xs.length : Int)) = true := decide_eq_true (by omega)
  replace hal := Aside0.mk hal
  replace hx0 := Aside0.mk hx0
  replace hxg := Aside0.mk hxg
  replace hrl := Aside0.mk hrl
  replace hL := Aside0.mk hL
  have hp' := Aside0.mk hp
  have hcw' := Aside0.mk hcw
  clear hp hcw
  clear hh hb hC hc hbl hxs hzz
  go_enter Try.func10, Try.ntmps10
  go_upto_region 4 with (first | (go_at_call 24; refine hr.out.mono ?_; rintro e w2 ⟨v, rfl, hrow, hb2⟩; obtain ⟨A2, c2, e2⟩ := Kd.R_slice1 hrow hx0.out; subst e2; replace hb2 := Aside0.mk hb2; replace hrow := Aside0.mk hrow))
  obtain ⟨b, rfl⟩ := Kd.R_head hrow.out
  obtain ⟨kb, fb⟩ := Kd.R_celln (0 : Int) hrow.out 0 (by omega) (by have := hx0.out; omega)
  have e0 : rdOf (0 : Int) xs 0 = (x : Int) := hxg.out
  rw [e0] at kb
  have kb0 : w2.cell? ⟨b, 0, none⟩ = some (.int .i64 (x : Int)) := kb
  have hC2 := Aside0.mk (Kd.R_reads' hrow.out).2.2
  have hcl := Aside0.mk (slices_Clone_int_int.calls ⟨b, 0, none⟩ c2 xs xs w2 hC2.out (Kd.R_reads' hrow.out).2.1 (by unfold slices_Clone_int_int.f; rw [Option.bind_some, if_pos (by have := hal.out; simp; omega), List.nil_append]))
  clear kb fb
  have hp0 : 0 < xs.length := hx0.out
  go_upto_region 5 with (fail)
  go_wp2_with (first | (go_at_call 25; refine hcl.out.mono ?_; rintro e w3 ⟨v3, rfl, hrow3, hb3⟩; obtain ⟨A3, c3, e3⟩ := Kd.R_slice hrow3; subst e3; have hC3 := Aside0.mk (Kd.C_below hC2.out hb3); have hrow3' := Aside0.mk (Kd.R_lower hrow3 hb2.out.size); have hb3' := Aside0.mk (hb2.out.trans (Far.below (Far.of_below (S := fun _ => False) hb3) hb2.out.size (fun _ h => h.elim))); clear hrow3 hb3 kb0) | ((with_reducible refine gate_builtin (b := .append) (xs := #[.tmp 22, .tmp 23]) rfl ?_); at_builtin; refine Kd.R_append_rows (Kd.int .i64) (w0 := w) w.heap.size rfl (.tmp 22) (.tmp 23) 26 3 (.int .i64 0) 8 rfl Try.underlying26 info3 rfl (by decide) (by omega) (.slice A3 xs.length c3) xs xs _ _ _ (fun _ => True) (fun _ => False) rfl rfl ?aO ?aR (fun _ _ h => h) (fun _ h => h.elim) ?aF ?aB ?aS ?aL ?_; (case aR => exact hC3.out); (case aB => exact hb3'.out); (case aF => exact (fun _ _ => trivial)); (case aO => exact hrow3'.out); (case aS => exact hb3'.out.size); (case aL => exact hal.out); intro v4 w4 ho hb4 hg hat; have hl4 : (xs ++ xs).length = xs.length + xs.length := List.length_append; obtain ⟨A4, c4, e4⟩ := Kd.R_slice1 ho (by omega); obtain ⟨b4, rfl⟩ := Kd.R_head (by rw [e4] at ho; exact ho); rw [hl4] at e4; subst e4; have hrow4 := Aside0.mk ho; have hb4' := Aside0.mk hb4; clear ho hb4 hg hat hl4))
  obtain ⟨kb4, _⟩ := Kd.R_celln (0 : Int) hrow4.out 0 (by omega) (by omega)
  have e4 : rdOf (0 : Int) (xs ++ xs) 0 = (x : Int) := by
    have := hxg.out
    unfold rdOf
    cases xs with
    | nil => exact absurd hp0 (by simp)
    | cons y ys => exact this
  rw [e4] at kb4
  have kb0 : w4.cell? ⟨b4, 0, none⟩ = some (.int .i64 (x : Int)) := kb4
  clear kb4 e4
  have hcs4 := Aside0.mk (blk_below hb'.out hb4'.out)
  have hp4 := Aside0.mk (hP s0 w w4 hp'.out hb4'.out)
  have hfar4 := Aside0.mk (Far.of_below (S := fun k => k = hcb) hb4'.out)
  have hm2 : ∀ y ∈ xs ++ xs, ∃ f : Nat, y = (f : Int) ∧ f < 96 := fun y hy => by
    rcases List.mem_append.1 hy with h' | h' <;> exact hmem.out y h'
  replace hm2 := Aside0.mk hm2
  have hll : (xs ++ xs).length = xs.length + xs.length := List.length_append
  replace hll := Aside0.mk hll
  have hfixL := hL
  clear kb0
  go_loopg [9, 26] (xs.length + xs.length) (fun kq v9 v26 w' => ∃ (i : Nat) (s : σ), v9 = .int .i64 (x : Int) ∧ v26 = .int .i64 (i : Int) ∧ Aside0 (i + kq = xs.length + xs.length) ∧ Aside0 (askAll ask nxt s0 (xs ++ xs) = askAll ask nxt s ((xs ++ xs).drop i)) ∧ Aside0 (P s w') ∧ Aside0 (CS w' g L) ∧ Aside0 (RI w' w.heap.size (fun _ => True) (.slice (some ⟨b4, 0, none⟩) (xs.length + xs.length) c4) (xs ++ xs)) ∧ Aside0 (Far (fun k => k = hcb) w w'))
  case atStart => exact ⟨0, s0, rfl, rfl, ⟨by omega⟩, ⟨rfl⟩, hp4, hcs4, ⟨by rw [← hll.out]; exact hll.out ▸ hrow4.out⟩, hfar4⟩
  case round =>
    obtain ⟨i, s, rfl, rfl, HK, HA, HP, HC, HR, HF⟩ := hrel
    clear hcs4 hp4 hfar4 hrow4
    have f96 := blk_frozen HC.out 96
    have k96 := ints_cell HC.out 96 (by have := hL.out; omega)
    generalize L.getD 96 0 = q at k96
    cases gk with
    | zero =>
      obtain rfl : i = xs.length + xs.length := by have := HK.out; omega
      have e1 : decide (((xs.length + xs.length : Nat) : Int) < (xs.length : Int) + (xs.length : Int)) = false := decide_eq_false (by omega)
      have e2 : ¬ ((xs.length : Int) + (xs.length : Int) < (xs.length : Int) + (xs.length : Int)) := by omega
      have hm : Int.tmod ((x : Int) + 1) 96 = (((x + 1) % 96 : Nat) : Int) := by rw [Int.tmod_eq_emod_of_nonneg (by omega)]; omega
      have hA := HA.out
      rw [List.drop_of_length_le (by rw [hll.out]; exact Nat.le_refl _)] at hA
      replace hA := Aside0.mk hA
      go_wp2
      go_returns
      rw [hA.out]
      exact ⟨x, hx96, rfl, rfl, hG _ _ 96 _ HP.out, ints_set HC.out 96 _, (HF.out.mono (fun _ h => .inr h)).setS (.inl rfl) 96 _⟩
    | succ k =>
      have hi : i < xs.length + xs.length := by have := HK.out; omega
      have e1 : decide ((i : Int) < (xs.length : Int) + (xs.length : Int)) = true := decide_eq_true (by omega)
      have e2 : (i : Int) < (xs.length : Int) + (xs.length : Int) := by omega
      have e3 : (0 : Int) ≤ (i : Int) := by omega
      have hi2 : i < (xs ++ xs).length := by rw [hll.out]; exact hi
      obtain ⟨f, hf, hf96⟩ := hm2.out (xs ++ xs)[i] (List.getElem_mem hi2)
      obtain ⟨kb4, _⟩ := Kd.R_celln (0 : Int) HR.out (i : Int) (by omega) (by omega)
      have e4 : rdOf (0 : Int) (xs ++ xs) (i : Int) = (f : Int) := by rw [← hf]; unfold rdOf; rw [Int.toNat_natCast, List.getD_eq_getElem?_getD, List.getElem?_eq_getElem hi2]; rfl
      rw [e4, Int.toNat_natCast] at kb4
      have hA := HA.out
      rw [List.drop_eq_getElem_cons hi2, hf] at hA
      have hKc := Aside0.mk (hK s f wr HP.out hf96)
      have ws := Aside0.mk (w64s i (by have := hrl.out; omega))
      have hi' : i < 1000000 := by have := hrl.out; omega
      have qf := eql_func
      cases hb : ask s (f : Int) with
      | true =>
        rw [hb] at hKc
        have hA2 : askAll ask nxt s0 (xs ++ xs) = askAll ask nxt (nxt s (f : Int)) ((xs ++ xs).drop (i + 1)) := by rw [hA]; show (if ask s (f : Int) then _ else _) = _; rw [hb]; rfl
        replace hA2 := Aside0.mk hA2
        clear hA e4 hf
        go_wp2_with (go_at_call 11; refine hKc.out.mono ?_; rintro e w5 ⟨rfl, hp5, hf5⟩; replace hp5 := Aside0.mk hp5; replace hf5 := Aside0.mk hf5)
        go_roundg k
        case measure => omega
        case rel => exact ⟨i + 1, _, rfl, by first | rw [ws.out] | rfl, ⟨by have := HK.out; omega⟩, hA2, hp5, ⟨hf5.out.blk HC.out (fun e => hcg e.symm)⟩, ⟨Kd.R_mono (Kd.R_step (Kd.R_tight rfl HR.out) (fun k hk hlt => hf5.out.block k hlt (fun e => by have := Kd.R_base HR.out k hk.symm; have := hcw'.out; omega))) (fun _ _ => trivial)⟩, ⟨HF.out.then_ hf5.out⟩⟩
      | false =>
        rw [hb] at hKc
        have hA2 : askAll ask nxt s0 (xs ++ xs) = (nxt s (f : Int), some (f : Int)) := by rw [hA]; show (if ask s (f : Int) then _ else _) = _; rw [hb]; rfl
        replace hA2 := Aside0.mk hA2
        have hm : Int.tmod ((f : Int) + 1) 96 = (((f + 1) % 96 : Nat) : Int) := by rw [Int.tmod_eq_emod_of_nonneg (by omega)]; omega
        clear hA e4 hf k96 f96
        go_upto_region 11 with (go_at_call 11; refine hKc.out.mono ?_; rintro e w5 ⟨rfl, hp5, hf5⟩; replace hp5 := Aside0.mk hp5; replace hf5 := Aside0.mk hf5)
        have HC5 := Aside0.mk (hf5.out.blk HC.out (fun e => hcg e.symm))
        have f96 := blk_frozen HC5.out 96
        have k96 := ints_cell HC5.out 96 (by have := hL.out; omega)
        generalize L.getD 96 0 = q at k96
        go_wp2
        go_returns
        rw [hA2.out]
        exact ⟨f, hf96, rfl, rfl, hG _ _ 96 _ hp5.out, ints_set HC5.out 96 _, ((HF.out.then_ hf5.out).mono (fun _ h => .inr h)).setS (.inl rfl) 96 _⟩

/-! what turns tell -/
theorem rnd_head (L but : List Int) (h : Nat) : ∀ (m : Nat) (x : Int) (r : List Int), rnd L but h m = x :: r → ∃ k, k < m ∧ x = (((h + k) % 96 : Nat) : Int) ∧ (inC L x && !(but.contains x)) = true ∧ ∀ j, j < k → (inC L (((h + j) % 96 : Nat) : Int) && !(but.contains (((h + j) % 96 : Nat) : Int))) = false := by
  intro m
  induction m with
  | zero => intro x r e; cases e
  | succ m ih =>
    intro x r e
    rw [rnd_succ] at e
    cases hc : (inC L (((h + m) % 96 : Nat) : Int) && !(but.contains (((h + m) % 96 : Nat) : Int))) with
    | false =>
      rw [hc, if_neg Bool.false_ne_true] at e
      obtain ⟨k, h1, h2, h3, h4⟩ := ih x r e
      exact ⟨k, by omega, h2, h3, h4⟩
    | true =>
      rw [hc, if_pos rfl] at e
      cases hr : rnd L but h m with
      | nil =>
        rw [hr] at e
        injection e with e1 _
        refine ⟨m, by omega, e1.symm, by rw [← e1]; exact hc, fun j hj => ?_⟩
        cases hcj : (inC L (((h + j) % 96 : Nat) : Int) && !(but.contains (((h + j) % 96 : Nat) : Int))) with
        | false => rfl
        | true =>
          have : ∀ q, j < q → q ≤ m → rnd L but h q ≠ [] := by
            intro q
            induction q with
            | zero => intro h; omega
            | succ q ihq =>
              intro h1 h2 e
              rw [rnd_succ] at e
              split at e
              · exact absurd e (by simp)
              · rename_i hne
                by_cases ej : j = q
                · subst ej; exact hne hcj
                · exact ihq (by omega) (by omega) e
          exact absurd hr (this m hj (Nat.le_refl _))
      | cons y s =>
        rw [hr] at e
        injection e with e1 _
        obtain ⟨k, h1, h2, h3, h4⟩ := ih y s hr
        subst e1
        exact ⟨k, by omega, h2, h3, h4⟩
/-- How many of the first frames are in. -/
def cin (L : List Int) : Nat → Nat
  | 0 => 0
  | h + 1 => cin L h + (if inC L (h : Int) then 1 else 0)
theorem cin_succ (L : List Int) (h : Nat) : cin L (h + 1) = cin L h + (if inC L (h : Int) then 1 else 0) := rfl
theorem cin_le (L : List Int) (h : Nat) : cin L h ≤ h := by
  induction h with
  | zero => exact Nat.le_refl _
  | succ h ih => rw [cin_succ]; split <;> omega
theorem cin_mono (L : List Int) (h k : Nat) (hk : h ≤ k) : cin L h ≤ cin L k := by
  induction k with
  | zero => have : h = 0 := by omega
            rw [this]; exact Nat.le_refl _
  | succ k ih =>
    by_cases e : h = k + 1
    · rw [e]; exact Nat.le_refl _
    · have := ih (by omega); rw [cin_succ]; omega
theorem cin_none (L : List Int) (h k : Nat) (hk : h ≤ k) (hn : ∀ f, h ≤ f → f < k → inC L (f : Int) = false) : cin L k = cin L h := by
  induction k with
  | zero => have : h = 0 := by omega
            rw [this]
  | succ k ih =>
    by_cases e : h = k + 1
    · rw [e]
    · rw [cin_succ, hn k (by omega) (by omega), ih (by omega) (fun f h1 h2 => hn f h1 (by omega))]; rfl
theorem cin_some (L : List Int) (h k : Nat) (hk : h ≤ k) (hlt : cin L h < cin L k) : ∃ f, h ≤ f ∧ f < k ∧ inC L (f : Int) = true := by
  refine Classical.byContradiction fun hno => ?_
  have := cin_none L h k hk (fun f h1 h2 => by
    cases hi : inC L (f : Int) with
    | false => rfl
    | true => exact absurd ⟨f, h1, h2, hi⟩ hno)
  omega
theorem cin_eq (L : List Int) (h : Nat) (hk : h ≤ 96) (he : cin L h = cin L 96) (f : Nat) (hf : f < 96) (hi : inC L (f : Int) = true) : f < h := by
  refine Classical.byContradiction fun hno => ?_
  have h1 := cin_mono L h f (by omega)
  have h2 : cin L (f + 1) = cin L f + 1 := by rw [cin_succ, hi]; rfl
  have h3 := cin_mono L (f + 1) 96 (by omega)
  omega
theorem cin_add {L : List Int} (hL : L.length = 98) (f p : Nat) (hok : addOk L (f : Int) (p : Int) = true) (hf : f < 96) (hno : inC L (f : Int) = false) (h : Nat) (hh : h ≤ 96) : cin (addL L (f : Int) (p : Int)) h = cin L h + (if f < h then 1 else 0) := by
  induction h with
  | zero => rfl
  | succ h ih =>
    have ih' := ih (by omega)
    rw [cin_succ, cin_succ, ih', inC_add hL f p hok h (by omega) hf]
    by_cases e : h = f
    · subst e
      have e1 : ¬ h < h := by omega
      have e2 : h < h + 1 := by omega
      rw [if_neg e1, if_pos e2, hno, decide_eq_true (rfl : h = h)]
      rfl
    · rw [decide_eq_false e, Bool.or_false]
      by_cases e2 : f < h
      · have e3 : f < h + 1 := by omega
        rw [if_pos e2, if_pos e3]
        omega
      · have e3 : ¬ f < h + 1 := by omega
        rw [if_neg e2, if_neg e3]
        omega
theorem cin_zeros (h : Nat) (hh : h ≤ 96) : cin zeros h = 0 := by
  induction h with
  | zero => rfl
  | succ h ih => rw [cin_succ, ih (by omega), inC_zeros h (by omega)]; rfl
theorem inC_set (L : List Int) (v : Int) (y : Nat) (hy : y < 96) (hL : L.length = 98) : inC (L.set 96 v) (y : Int) = inC L (y : Int) := by
  rw [inC_nat _ y hy, inC_nat _ y hy, getD_set _ _ _ _ (by omega), if_neg (by omega)]
theorem cin_set (L : List Int) (v : Int) (hL : L.length = 98) (h : Nat) (hh : h ≤ 96) : cin (L.set 96 v) h = cin L h := by
  induction h with
  | zero => rfl
  | succ h ih => rw [cin_succ, cin_succ, ih (by omega), inC_set L v h (by omega) hL]
theorem addOk_not {L : List Int} {f p : Int} (h : addOk L f p = true) : inC L f = false := by
  unfold addOk at h
  have := (Bool.and_eq_true _ _ ▸ h).2
  simpa using this
theorem len_add (L : List Int) (hL : L.length = 98) (f p : Int) : (addL L f p).getD 97 0 = if addOk L f p then wrap64 (L.getD 97 0 + 1) else L.getD 97 0 := by
  unfold addL
  split
  · rw [getD_set _ _ _ _ (by simp; omega), if_pos rfl]
  · rfl
/-- Nobody spared: the next one, from h on, that is in. -/
theorem next_in {L : List Int} {h : Nat} (h96 : h < 96) (hs : ∃ f, h ≤ f ∧ f < 96 ∧ inC L (f : Int) = true) : ∃ (x : Nat) (r : List Int), rnd L [] h 96 = (x : Int) :: r ∧ h ≤ x ∧ x < 96 ∧ inC L ((x : Nat) : Int) = true ∧ cin L (x + 1) = cin L h + 1 := by
  obtain ⟨f, hf1, hf2, hf3⟩ := hs
  have hne : rnd L [] h 96 ≠ [] := by
    have : ∀ q, f - h < q → q ≤ 96 → rnd L [] h q ≠ [] := by
      intro q
      induction q with
      | zero => intro h; omega
      | succ q ih =>
        intro h1 h2 e
        rw [rnd_succ] at e
        split at e
        · exact absurd e (by simp)
        · rename_i hno
          by_cases eq : f - h = q
          · refine hno ?_
            rw [show (h + q) % 96 = f by omega, hf3]
            rfl
          · exact ih (by omega) (by omega) e
    exact this 96 (by omega) (Nat.le_refl _)
  cases hr : rnd L [] h 96 with
  | nil => exact absurd hr hne
  | cons y r =>
    obtain ⟨k, hk, hy, hin, hno⟩ := rnd_head L [] h 96 y r hr
    have hkf : k ≤ f - h := by
      refine Classical.byContradiction fun hgt => ?_
      have := hno (f - h) (by omega)
      rw [show (h + (f - h)) % 96 = f by omega, hf3] at this
      cases this
    have hx : (h + k) % 96 = h + k := by omega
    rw [hx] at hy
    have hin2 : inC L ((h + k : Nat) : Int) = true := by
      rw [← hy]
      exact (Bool.and_eq_true _ _ ▸ hin).1
    refine ⟨h + k, r, by rw [hy], by omega, by omega, hin2, ?_⟩
    rw [cin_succ, hin2, if_pos rfl, cin_none L h (h + k) (by omega) (fun j h1 h2 => ?_)]
    have := hno (j - h) (by omega)
    rw [show (h + (j - h)) % 96 = j by omega] at this
    cases hi : inC L (j : Int) with
    | false => rfl
    | true => rw [hi] at this; cases this
theorem rnd_hasAny {L : List Int} {f h : Nat} (hi : inC L (f : Int) = true) (hf : f < 96) (hh : h < 96) : (f : Int) ∈ rnd L [] h 96 := by
  have : ∀ q, (f + 96 - h) % 96 < q → q ≤ 96 → (f : Int) ∈ rnd L [] h q := by
    intro q
    induction q with
    | zero => intro h; omega
    | succ q ih =>
      intro h1 h2
      rw [rnd_succ]
      by_cases e : (f + 96 - h) % 96 = q
      · have e2 : (h + q) % 96 = f := by omega
        rw [e2, hi]
        simp
      · have := ih (by omega) (by omega)
        split
        · exact List.mem_append.2 (.inl this)
        · exact this
  exact this 96 (by omega) (Nat.le_refl _)
/-- Asked without memory: whoever is told isn't spared, if any isn't. -/
theorem askAll_one (st : Int → Bool) (l : List Int) : (∃ y, (askAll (fun (_ : Unit) f => st f) (fun _ _ => ()) () l).2 = some y ∧ y ∈ l ∧ st y = false) ∨ ((askAll (fun (_ : Unit) f => st f) (fun _ _ => ()) () l).2 = none ∧ ∀ y ∈ l, st y = true) := by
  induction l with
  | nil => exact .inr ⟨rfl, fun y hy => by cases hy⟩
  | cons f r ih =>
    unfold askAll
    cases hb : st f with
    | false => exact .inl ⟨f, rfl, by simp, hb⟩
    | true =>
      rw [if_pos rfl]
      rcases ih with ⟨y, h1, h2, h3⟩ | ⟨h1, h2⟩
      · exact .inl ⟨y, h1, List.mem_cons_of_mem _ h2, h3⟩
      · refine .inr ⟨h1, fun y hy => ?_⟩
        rcases List.mem_cons.1 hy with e | hy
        · rw [e]; exact hb
        · exact h2 y hy

/-! the law's closure -/
def st (S : List Bool) (f : Int) : Bool := decide (0 ≤ f ∧ f < S.length) && S.getD f.toNat false
theorem st_in (S : List Bool) (f : Nat) (h : f < S.length) : st S (f : Int) = S[f] := by
  unfold st
  rw [decide_eq_true (by omega), Int.toNat_natCast, Bool.true_and]
  simp [h]
theorem st_out (S : List Bool) (f : Nat) (h : ¬ f < S.length) : st S (f : Int) = false := by
  unfold st
  rw [decide_eq_false (by omega)]
  rfl
/-- stay, as it came in, in a variable of its own. -/
structure Stay (w : World) (hc : Nat) (A : Option Addr) (c : Nat) (S : List Bool) (W : World) : Prop where
  blk : W.heap[hc]? = some (.cells #[.slice A S.length c] 32 (0, 0))
  low : Below w.heap.size w W
theorem Below_low {n m : Nat} {a b : World} (h : Below n a b) (hm : m ≤ n) : Below m a b := ⟨h.os, h.tape, h.output, h.size, fun k hk => h.block k (by omega)⟩
theorem Stay.below {w : World} {hc : Nat} {A : Option Addr} {c : Nat} {S : List Bool} {W W' : World} (h : Stay w hc A c S W) (hb : Below W.heap.size W W') : Stay w hc A c S W' := ⟨blk_below h.blk hb, h.low.trans (Below_low hb h.low.size)⟩
theorem Stay.set {w : World} {hc g : Nat} {A : Option Addr} {c : Nat} {S : List Bool} {W : World} (h : Stay w hc A c S W) (hne : hc ≠ g) (hg : w.heap.size ≤ g) (i : Nat) (u : Value) : Stay w hc A c S (W.setCell ⟨g, i, none⟩ u) := ⟨blk_far h.blk (p := ⟨g, i, none⟩) hne u, below_set h.low hg⟩
theorem Stay.far {w : World} {hc g : Nat} {A : Option Addr} {c : Nat} {S : List Bool} {W W' : World} (h : Stay w hc A c S W) (hne : hc ≠ g) (hg : w.heap.size ≤ g) (hf : Far (fun k => k = g) W W') : Stay w hc A c S W' :=
  ⟨hf.blk h.blk hne, h.low.trans (hf.below h.low.size (fun i e => by rw [e]; exact hg))⟩
theorem bool_at {w : World} {A : Option Addr} {xs : List Bool} (hC : Kd.C Kd.bool w A xs.length xs) (j : Nat) (hj : j < xs.length) : ∃ ad, A = some ad ∧ w.cell? (ad.add j) = some (.bool xs[j]) := by
  obtain ⟨ad, cs, eA, hc1, hc2, hc3⟩ := hC.get_ false (j : Int) (by omega) (by omega)
  have hk : cs = [.bool xs[j]] := by
    have : xs.getD (j : Int).toNat false = xs[j] := by simp [hj]
    rw [this] at hc2
    exact hc2
  subst hk
  have h := hc3 0 _ rfl
  exact ⟨ad, eA, by simpa [Kd.bool, Kd.scalar] using h⟩
set_option maxHeartbeats 8000000 in
set_option maxRecDepth 100000 in
theorem stays_calls (hc : Nat) (A : Option Addr) (c : Nat) (S : List Bool) (f : Nat) (w W : World) (hC : Kd.C Kd.bool w A S.length S) (h : Stay w hc A c S W) : Calls Try.prog 11 #[.int .i64 (f : Int), .pointer (some ⟨hc, 0, none⟩)] W fun e w' => e = .returned (.bool (st S (f : Int))) ∧ w' = W := by
  have k0 : W.cell? ⟨hc, 0, none⟩ = some (.slice A S.length c) := (blk_cell h.blk 0).trans rfl
  by_cases hf : f < S.length
  · have d1 : decide ((f : Int) < (S.length : Int)) = true := decide_eq_true (by omega)
    have d2 : decide (f < S.length) = true := decide_eq_true hf
    have f0 : (0 : Int) ≤ (f : Int) := by omega
    have f1 : (f : Int) < (S.length : Int) := by omega
    obtain ⟨ad, rfl, kf⟩ := bool_at (Kd.C_below hC h.low) f hf
    rw [st_in S f hf]
    clear h hC
    generalize S[f] = q at kf ⊢
    go_enter Try.func11, Try.ntmps11
    go_upto_region 1 with (fail)
    first | go_quiet (fail) | skip
    go_wp2
    go_returns
    exact ⟨rfl, rfl⟩
  · have d1 : decide ((f : Int) < (S.length : Int)) = false := decide_eq_false (by omega)
    have d2 : decide (f < S.length) = false := decide_eq_false hf
    rw [st_out S f hf]
    clear h hC
    go_enter Try.func11, Try.ntmps11
    go_upto_region 1 with (fail)
    first | go_quiet (fail) | skip
    go_wp2
    go_returns
    exact ⟨rfl, rfl⟩

end Go.Proofs.Ytmmnkanijdbgpaa.Hand
