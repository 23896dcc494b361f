/- tlb's Hits, Misses; Note with a use or two told; the chapter's example. -/
import Derived.Test.YtfmkjdbhijeejaaT2
namespace Go.Proofs.Ytfmkjdbhijeejaa.Hand
set_option linter.unusedVariables false
set_option linter.unusedSimpArgs false
open Go.RowKit Go.Proofs.Ytfmkjdbhijeejaa.R Go.Proofs.YtfmkjdbhijeejaaW.PrintWords Go.Proofs.YtfmkjdbhijeejaaW.PrintMore

set_option maxHeartbeats 8000000 in
set_option maxRecDepth 100000 in
theorem hits_calls (g : Nat) (L : List Int) (h : Int) (w : World) (hb : w.heap[g]? = some (.cells (ints L) 53 (0, 0))) (hh : L[48]? = some h) : Calls Try.prog 9 #[.pointer (some ⟨g, 0, none⟩)] w fun e w' => e = .returned (.int .i64 h) ∧ Drawn0 w w' := by
  have c := ints_cell hb hh
  go_enter Try.func9, Try.ntmps9
  go_wp2
  go_returns
  exact ⟨rfl, ⟨0, rfl⟩⟩
set_option maxHeartbeats 8000000 in
set_option maxRecDepth 100000 in
theorem misses_calls (g : Nat) (L : List Int) (h : Int) (w : World) (hb : w.heap[g]? = some (.cells (ints L) 53 (0, 0))) (hh : L[49]? = some h) : Calls Try.prog 10 #[.pointer (some ⟨g, 0, none⟩)] w fun e w' => e = .returned (.int .i64 h) ∧ Drawn0 w w' := by
  have c := ints_cell hb hh
  go_enter Try.func10, Try.ntmps10
  go_wp2
  go_returns
  exact ⟨rfl, ⟨0, rfl⟩⟩

theorem note1 (g : Nat) (L : List Int) (page : Nat) (frame u m : Int) (w : World) (hb : w.heap[g]? = some (.cells (ints L) 53 (0, 0))) (hL : L.length = 50) (hm : maskN [u] 0 = (m, true)) (h1 : page < 68719476736) (h2 : 0 ≤ frame) (h3 : frame < 96) (gl : Nat) (hgl : gl = w.heap.size) (pg : Int) (hpg : pg = (page : Int)) :
    Calls Try.prog 7 #[.pointer (some ⟨g, 0, none⟩), .int .i64 pg, .int .i64 frame, .slice (some ⟨gl, 0, none⟩) 1 1] (w.alloc (.cells #[.int .i64 u] 3 (0, 0))) fun e w' => e = .returned (.bool true) ∧ w'.heap[g]? = some (.cells (ints (noteL L page frame m)) 53 (0, 0)) ∧ Far (fun x => x = g) w w' := by
  subst hgl
  subst hpg
  refine (note_yes g L page frame _ 1 [u] m _ (blk_alloc hb _) hL (lit_C w .i64 [u] _ 3 (0, 0) rfl (by simp)) (Nat.le_refl _) (by simp) hm h1 h2 h3).mono ?_
  rintro e w' ⟨rfl, h, hf⟩
  exact ⟨rfl, h, (Far.alloc (Far.refl _ w) _).then_ hf⟩
theorem note2 (g : Nat) (L : List Int) (page : Nat) (frame u v m : Int) (w : World) (hb : w.heap[g]? = some (.cells (ints L) 53 (0, 0))) (hL : L.length = 50) (hm : maskN [u, v] 0 = (m, true)) (h1 : page < 68719476736) (h2 : 0 ≤ frame) (h3 : frame < 96) (gl : Nat) (hgl : gl = w.heap.size) (pg : Int) (hpg : pg = (page : Int)) :
    Calls Try.prog 7 #[.pointer (some ⟨g, 0, none⟩), .int .i64 pg, .int .i64 frame, .slice (some ⟨gl, 0, none⟩) 2 2] (w.alloc (.cells #[.int .i64 u, .int .i64 v] 3 (0, 0))) fun e w' => e = .returned (.bool true) ∧ w'.heap[g]? = some (.cells (ints (noteL L page frame m)) 53 (0, 0)) ∧ Far (fun x => x = g) w w' := by
  subst hgl
  subst hpg
  refine (note_yes g L page frame _ 2 [u, v] m _ (blk_alloc hb _) hL (lit_C w .i64 [u, v] _ 3 (0, 0) rfl (by simp)) (Nat.le_refl _) (by simp) hm h1 h2 h3).mono ?_
  rintro e w' ⟨rfl, h, hf⟩
  exact ⟨rfl, h, (Far.alloc (Far.refl _ w) _).then_ hf⟩

theorem findy (g : Nat) (L : List Int) (page : Nat) (use : Int) (w : World) (hb : w.heap[g]? = some (.cells (ints L) 53 (0, 0))) (hL : L.length = 50) (hf : findOk L page use) (hs : Int) (hhs : L[48]? = some hs) (fr : Int) (hfr : L[page % 16 * 3 + 1]? = some fr) (pg : Int) (hpg : pg = (page : Int)) :
    Calls Try.prog 8 #[.pointer (some ⟨g, 0, none⟩), .int .i64 pg, .int .i64 use] w fun e w' => e = .returned (.tuple #[.int .i64 fr, .bool true]) ∧ w'.heap[g]? = some (.cells (ints (L.set 48 (wrap64 (hs + 1)))) 53 (0, 0)) ∧ Far (fun x => x = g) w w' := by
  subst hpg
  exact find_yes g L page use w hb hL hf hs hhs fr hfr
theorem findn (g : Nat) (L : List Int) (page : Nat) (use : Int) (w : World) (hb : w.heap[g]? = some (.cells (ints L) 53 (0, 0))) (hL : L.length = 50) (hu : use = 1 ∨ use = 2 ∨ use = 4) (hp : page < 68719476736) (hf : ¬ findOk L page use) (ms : Int) (hms : L[49]? = some ms) (pg : Int) (hpg : pg = (page : Int)) :
    Calls Try.prog 8 #[.pointer (some ⟨g, 0, none⟩), .int .i64 pg, .int .i64 use] w fun e w' => e = .returned (.tuple #[.int .i64 0, .bool false]) ∧ w'.heap[g]? = some (.cells (ints (L.set 49 (wrap64 (ms + 1)))) 53 (0, 0)) ∧ Far (fun x => x = g) w w' := by
  subst hpg
  exact find_no2 g L page use w hb hL hu hp hf ms hms
instance (L : List Int) (page : Nat) (use : Int) : Decidable (findOk L page use) := by unfold findOk; exact inferInstance
def L1 : List Int := noteL zeros 3 5 1
def L2 : List Int := L1.set 48 (wrap64 (0 + 1))

set_option maxHeartbeats 8000000 in
set_option maxRecDepth 100000 in
theorem lives_calls (w : World) : Calls Try.prog 11 #[] w fun e w' => e = .returned (.bool true) ∧ Below w.heap.size w w' := by
  have hb0 : (w.alloc (.cells (ints zeros) 53 (0, 0))).heap[w.heap.size]? = some (.cells (ints zeros) 53 (0, 0)) := blk_new w _
  have c1 := note1 w.heap.size zeros 3 5 1 1 _ hb0 (by decide +kernel) (by decide +kernel) (by decide) (by decide) (by decide) (w.heap.size + 1) (by simp) 3 rfl
  have c2 := fun W (h : W.heap[w.heap.size]? = some (.cells (ints L1) 53 (0, 0))) => findy w.heap.size L1 3 1 W h (by decide +kernel) (by decide +kernel) 0 (by decide +kernel) 5 (by decide +kernel) 3 rfl
  have c3 := fun W (h : W.heap[w.heap.size]? = some (.cells (ints L2) 53 (0, 0))) => findn w.heap.size L2 3 2 W h (by decide +kernel) (.inr (.inl rfl)) (by decide) (by decide +kernel) 0 (by decide +kernel) 3 rfl
  replace c1 := Aside0.mk c1
  replace c2 := Aside0.mk c2
  replace c3 := Aside0.mk c3
  clear hb0
  go_enter Try.func11, Try.ntmps11
  go_wp2_with (first | (go_at_call 6; with_reducible refine (new_calls w).mono ?_; rintro e w' ⟨rfl, rfl⟩) | (go_at_call 7; refine c1.out.mono ?_; rintro e w2 ⟨rfl, b1, f1⟩; replace b1 : Aside0 (w2.heap[w.heap.size]? = some (.cells (ints L1) 53 (0, 0))) := ⟨b1⟩; replace f1 := Aside0.mk f1) | (go_at_call 8; refine (c3.out _ b2.out).mono ?_; rintro e w4 ⟨rfl, b3, f3⟩; replace b3 := Aside0.mk b3; replace f3 := Aside0.mk f3) | (go_at_call 8; refine (c2.out _ b1.out).mono ?_; rintro e w3 ⟨rfl, b2, f2⟩; replace b2 : Aside0 (w3.heap[w.heap.size]? = some (.cells (ints L2) 53 (0, 0))) := ⟨b2⟩; replace f2 := Aside0.mk f2))
  go_returns
  refine ⟨rfl, ?_⟩
  have F1 := (Far.alloc (Far.refl (fun x => x = w.heap.size) w) (.cells (ints zeros) 53 (0, 0))).then_ (f1.out.then_ (f2.out.then_ f3.out))
  exact F1.below (Nat.le_refl _) (fun i hi => by omega)

end Go.Proofs.Ytfmkjdbhijeejaa.Hand
