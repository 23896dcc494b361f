/- The closure of ClockPlays. -/
import Derived.Test.YtmmnkanijdbgpaaD4
namespace Go.Proofs.Ytmmnkanijdbgpaa.Hand
set_option linter.unusedVariables false
set_option linter.unusedSimpArgs false
open Go.RowKit Go.Proofs.Ytmmnkanijdbgpaa.R Go.Proofs.YtmmnkanijdbgpaaW.PrintWords Go.Proofs.YtmmnkanijdbgpaaW.PrintLast Go.Proofs.YtmmnkanijdbgpaaW.PrintMore

def askS (S : List Bool) (s : List Int) (_ : Int) : Bool := decide (s.length < S.length) && S.getD s.length false
def nxtS (s : List Int) (f : Int) : List Int := s ++ [f]
def boxD (d : S44) (A3 : Option Addr) (c3 : Nat) (A4 : Option Addr) (c4 : Nat) : Array Value := #[.int .i64 d.f0, .int .i64 d.f1, .int .i64 d.f2, .slice A3 d.f3.length c3, .slice A4 d.f4.length c4]
/-- What was told; the deed. -/
structure Told (hcb hdb base0 : Nat) (d : S44) (A3 : Option Addr) (c3 : Nat) (A4 : Option Addr) (c4 : Nat) (N i : Nat) (s : List Int) (W : World) : Prop where
  len : s.length = i
  low : base0 ≤ N
  lt : hcb < base0 ∧ hdb < base0 ∧ hcb ≠ hdb
  row : ∃ A c, W.heap[hcb]? = some (.cells #[.slice A s.length c] 26 (0, 0)) ∧ RI W N (fun _ => True) (.slice A s.length c) s
  deed : W.heap[hdb]? = some (.cells (boxD d A3 c3 A4 c4) 44 (0, 0))
  C : Kd.C Kd.bool W A3 d.f3.length d.f3
  cl : d.f3.length ≤ c3
  cb : ∀ ad, A3 = some ad → 0 < d.f3.length → ad.block < base0 ∧ ad.block ≠ hcb
theorem bool_stay {S : Nat → Prop} {w w' : World} {A : Option Addr} {n : Nat} {xs : List Bool} (h : Kd.C Kd.bool w A n xs) (f : Far S w w') (hA : ∀ ad, A = some ad → 0 < n → ¬ S ad.block) : Kd.C Kd.bool w' A n xs := by
  refine ⟨h.1, h.2.1, fun hn => ?_⟩
  obtain ⟨ad, ha, hc⟩ := h.2.2 hn
  refine ⟨ad, ha, fun j x hj => ?_⟩
  obtain ⟨cs, h1, h2, h3⟩ := hc j x hj
  refine ⟨cs, h1, h2, fun i u hu => ?_⟩
  have hcell := h3 i u hu
  have hb : (ad.add (j * Kd.bool.sz + i)).block = ad.block := by simp [Addr.add]; split <;> rfl
  have hlt := World.block_lt_of_cell? w _ hcell
  rw [← hcell]
  exact World.cell?_of_block (f.block _ hlt (by rw [hb]; exact hA ad ha hn))
theorem Told.below {hcb hdb base0 : Nat} {d : S44} {A3 : Option Addr} {c3 : Nat} {A4 : Option Addr} {c4 : Nat} {N i : Nat} {s : List Int} {W W' : World} (h : Told hcb hdb base0 d A3 c3 A4 c4 N i s W) (hb : Below W.heap.size W W') : Told hcb hdb base0 d A3 c3 A4 c4 N i s W' := by
  obtain ⟨A, c, h1, h2⟩ := h.row
  exact ⟨h.len, h.low, h.lt, ⟨A, c, blk_below h1 hb, Kd.R_below h2 hb⟩, blk_below h.deed hb, Kd.C_below h.C hb, h.cl, h.cb⟩
theorem Told.set {hcb hdb base0 g : Nat} {d : S44} {A3 : Option Addr} {c3 : Nat} {A4 : Option Addr} {c4 : Nat} {N i : Nat} {s : List Int} {W : World} (h : Told hcb hdb base0 d A3 c3 A4 c4 N i s W) (hg : g < N) (h1 : g ≠ hcb) (h2 : g ≠ hdb) (h3 : ∀ ad, A3 = some ad → 0 < d.f3.length → ad.block ≠ g) (j : Nat) (u : Value) : Told hcb hdb base0 d A3 c3 A4 c4 N i s (W.setCell ⟨g, j, none⟩ u) := by
  obtain ⟨A, c, r1, r2⟩ := h.row
  have hf : Far (fun k => k = g) W (W.setCell ⟨g, j, none⟩ u) := Far.setCell (S := fun k => k = g) (Far.refl _ W) (p := ⟨g, j, none⟩) (.inl rfl) u
  exact ⟨h.len, h.low, h.lt, ⟨A, c, hf.blk r1 (fun e => h1 e.symm), Kd.R_mono (Kd.R_step (Kd.R_tight rfl r2) (fun k hk hlt => hf.block k hlt (fun e => by have := Kd.R_base r2 k hk.symm; have e' : k = g := e; omega))) (fun _ _ => trivial)⟩, hf.blk h.deed (fun e => h2 e.symm), bool_stay h.C hf (fun ad e hp he => h3 ad e hp he), h.cl, h.cb⟩
set_option maxHeartbeats 8000000 in
set_option maxRecDepth 100000 in
theorem told_calls (hcb hdb base0 : Nat) (d : S44) (A3 : Option Addr) (c3 : Nat) (A4 : Option Addr) (c4 : Nat) (N i : Nat) (s : List Int) (f : Nat) (W : World) (hi : i < 1000) (hN : N ≤ W.heap.size) (h : Told hcb hdb base0 d A3 c3 A4 c4 N i s W) :
    Calls Try.prog 27 #[.int .i64 (f : Int), .pointer (some ⟨hcb, 0, none⟩), .pointer (some ⟨hdb, 0, none⟩)] W fun e w' => e = .returned (.bool (askS d.f3 s (f : Int))) ∧ Told hcb hdb base0 d A3 c3 A4 c4 N (i + 1) (nxtS s (f : Int)) w' ∧ Far (fun k => k = hcb ∨ N ≤ k) W w' := by
  obtain ⟨A, c, h1, h2⟩ := h.row
  have k0 : W.cell? ⟨hcb, 0, none⟩ = some (.slice A s.length c) := (blk_cell h1 0).trans rfl
  have fr0 := blk_frozen h1 0
  have hne := Kd.R_ne h2 h1 (by decide)
  have hnd := Kd.R_ne h2 h.deed (by decide)
  have hlen := h.len
  have hal : (s.length + 1) * 8 ≤ 140737488355328 := by omega
  replace h := Aside0.mk h
  replace h1 := Aside0.mk h1
  replace h2 := Aside0.mk h2
  replace hne := Aside0.mk hne
  replace hnd := Aside0.mk hnd
  replace hal := Aside0.mk hal
  replace hlen := Aside0.mk hlen
  replace hN := Aside0.mk hN
  go_enter Try.func27, Try.ntmps27
  go_upto_region 2 with ((with_reducible refine gate_builtin (b := .append) (xs := #[.tmp 5, .tmp 7]) rfl ?_); at_builtin; refine Kd.R_append (Kd.int .i64) (w0 := W) N rfl (.tmp 5) (.tmp 7) 26 3 (.int .i64 0) 8 rfl Try.underlying26 info3 rfl (by decide) (by omega) (.slice A s.length c) s (f : Int) [.int .i64 (f : Int)] (fun _ => True) (fun _ => False) rfl rfl ?aP (fun _ hk => hk.elim) ?aF ?aO ?aB ?aS ?aL ?_; (case aP => exact rfl); (case aB => exact Below.refl _ _); (case aF => exact (fun _ _ => trivial)); (case aO => exact h2.out); (case aS => exact hN.out); (case aL => exact hal.out); intro v4 w4 ho hb4 hg hat; obtain ⟨A5, c5, e4⟩ := Kd.R_slice ho; rw [List.length_append, List.length_singleton] at e4; subst e4; have hv4 := (hg.block hcb (blk_lt h1.out) hne.out).trans h1.out; have fv4 := blk_frozen hv4 0; have kv4 : w4.cell? ⟨hcb, 0, none⟩ = some (.slice A s.length c) := (blk_cell hv4 0).trans rfl; replace ho := Aside0.mk ho; replace hb4 := Aside0.mk hb4; replace hg := Aside0.mk hg; replace hat := Aside0.mk hat; replace hv4 := Aside0.mk hv4)
  have hset : (w4.setCell ⟨hcb, 0, none⟩ (.slice A5 (s.length + 1) c5)).heap[hcb]? = some (.cells #[.slice A5 (s.length + 1) c5] 26 (0, 0)) := blk_put hv4.out 0 _ rfl
  have f4 : Far (fun k => N ≤ k) W w4 := ⟨hg.out.os, hg.out.tape, hg.out.output, hg.out.size, fun k hlt hn => hg.out.block k hlt (fun e => hn (Kd.R_base h2.out k e.symm))⟩
  have f5 : Far (fun k => k = hcb ∨ N ≤ k) W (w4.setCell ⟨hcb, 0, none⟩ (.slice A5 (s.length + 1) c5)) := Far.setCell (f4.mono (fun k hk => .inr hk)) (p := ⟨hcb, 0, none⟩) (.inl (.inl rfl)) _
  have hd5 := f5.blk h.out.deed (fun e => by have hl := h.out.lt; have := h.out.low; rcases e with e | e; exact hl.2.2 e.symm; omega)
  have hT : Told hcb hdb base0 d A3 c3 A4 c4 N (i + 1) (nxtS s (f : Int)) (w4.setCell ⟨hcb, 0, none⟩ (.slice A5 (s.length + 1) c5)) := by
    refine ⟨by unfold nxtS; rw [List.length_append, h.out.len]; rfl, h.out.low, h.out.lt, ⟨A5, c5, ?_, ?_⟩, hd5, bool_stay h.out.C f5 (fun ad e hp he => by have h1 := h.out.cb ad e hp; have h2 := h.out.low; rcases he with he | he; exact h1.2 he; omega), h.out.cl, h.out.cb⟩
    · unfold nxtS
      rw [List.length_append]
      exact hset
    · have hne5 : ∀ k, some k = (Value.slice A5 (s.length + 1) c5).ownBlock → k ≠ hcb := fun k hk e => by
        have h1 := Kd.R_ne ho.out hv4.out (by decide)
        exact h1 (by rw [← e]; exact hk)
      have := Kd.R_mono (ok' := fun _ => True) (Kd.R_far (p := ⟨hcb, 0, none⟩) (Kd.R_tight rfl ho.out) (fun k hk => hne5 k hk) (.slice A5 (s.length + 1) c5)) (fun _ _ => trivial)
      unfold nxtS
      rw [List.length_append]
      exact this
  have k5 : (w4.setCell ⟨hcb, 0, none⟩ (.slice A5 (s.length + 1) c5)).cell? ⟨hcb, 0, none⟩ = some (.slice A5 (s.length + 1) c5) := (blk_cell hset 0).trans rfl
  have d3 : (w4.setCell ⟨hcb, 0, none⟩ (.slice A5 (s.length + 1) c5)).cell? ⟨hdb, 3, none⟩ = some (.slice A3 d.f3.length c3) := (blk_cell hd5 3).trans rfl
  have hCb := hT.C
  generalize w4.setCell ⟨hcb, 0, none⟩ (.slice A5 (s.length + 1) c5) = w5 at f5 hT k5 d3 hCb ⊢
  replace f5 := Aside0.mk f5
  replace hT := Aside0.mk hT
  clear fv4 kv4 hset f4 hd5 ho hb4 hg hat hv4 k0 fr0
  by_cases hs : s.length < d.f3.length
  · obtain ⟨ad, rfl, kb⟩ := bool_at hCb s.length hs
    have d1 : decide (((s.length + 1 : Nat) : Int) ≤ (d.f3.length : Int)) = true := decide_eq_true (by omega)
    have d2 : decide ((s.length : Int) + 1 ≤ (d.f3.length : Int)) = true := decide_eq_true (by omega)
    have d4 : decide (s.length + 1 ≤ d.f3.length) = true := decide_eq_true (by omega)
    have d5 : decide (s.length < d.f3.length) = true := decide_eq_true hs
    have i0 : (0 : Int) ≤ (s.length : Int) := by omega
    have i1 : (s.length : Int) < (d.f3.length : Int) := by omega
    have ew : wrap64 ((s.length : Int) + 1 - 1) = (s.length : Int) := by have := hlen.out; unfold wrap64; omega
    have hask : askS d.f3 s (f : Int) = d.f3[s.length] := by unfold askS; rw [d5, Bool.true_and]; simp [hs]
    rw [← hask] at kb
    replace hask := Aside0.mk hask
    replace ew := Aside0.mk ew
    have hsmall : s.length < 1000 := by rw [hlen.out]; exact hi
    obtain ⟨q, hq⟩ : ∃ q, q = askS d.f3 s (f : Int) := ⟨_, rfl⟩
    rw [← hq] at kb
    replace hq := Aside0.mk hq
    have ew := ew.out
    clear hCb
    go_upto_region 2 with (fail)
    first | go_quiet (fail) | skip
    go_wp2
    go_returns
    exact ⟨by rw [← hq.out]; rfl, hT.out, f5.out⟩
  · have d1 : decide (((s.length + 1 : Nat) : Int) ≤ (d.f3.length : Int)) = false := decide_eq_false (by omega)
    have d2 : decide ((s.length : Int) + 1 ≤ (d.f3.length : Int)) = false := decide_eq_false (by omega)
    have d4 : decide (s.length + 1 ≤ d.f3.length) = false := decide_eq_false (by omega)
    have hask : askS d.f3 s (f : Int) = false := by unfold askS; rw [decide_eq_false hs, Bool.false_and]
    replace hask := Aside0.mk hask
    clear hCb
    go_upto_region 2 with (fail)
    first | go_quiet (fail) | skip
    go_wp2
    go_returns
    exact ⟨by rw [hask.out]; rfl, hT.out, f5.out⟩

end Go.Proofs.Ytmmnkanijdbgpaa.Hand
