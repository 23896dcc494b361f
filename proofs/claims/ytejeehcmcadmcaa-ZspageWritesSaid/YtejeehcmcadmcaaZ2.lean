/- A range over a function whose body always goes on: what the iterator turns (T), what the body has (I), what either keeps of the other's. No program. -/
import Derived.Test.YtejeehcmcadmcaaFar
import Derived.RangeFuncBox
import Derived.RangeFuncLeaves
import Derived.Shelf.Abstract
import Derived.OwnWalkIn
import Derived.TacticsInMore
namespace Go.Proofs.Ytejeehcmcadmcaa.Hand
set_option linter.unusedVariables false
open Go.RowKit

theorem Far.putObj {S : Nat → Prop} {a b : World} (h : Far S a b) {l : Nat} (hl : S l ∨ a.heap.size ≤ l) (o : Obj) : Far S a (b.putObj l o) :=
  h.trans (S2 := fun i => i = l) ⟨rfl, rfl, rfl, by simp, fun k _ hn => World.putObj_heap_other hn⟩ (fun i hi => by rw [hi]; exact hl)

/-- What an iterator, called with yield of the loop l, must do: tell all, one behind the other; what it turns by itself is T. -/
def Tells {α : Type} (P : Program) (k : Nat) (gf : Nat) (lb : Array Value) (encs : α → Array Value) (T : Nat → Prop) (all : List α) (l : Nat) (W : World) : Prop :=
  ∀ (J : List α → World → Prop), (∀ pre x W0 W1, pre.length < all.length → J pre W0 → Far T W0 W1 → YieldAt Fence.wide (k - 1) P l (encs x) W1 fun e W' =>
      e = .returned (.bool true) ∧ J (pre ++ [x]) W' ∧ ∀ i, (T i ∨ (W0.heap.size ≤ i ∧ i < W1.heap.size)) → W'.heap[i]? = W1.heap[i]?) →
    J [] W → CallsIn Fence.wide k P gf (#[.func (.yield l) #[] #[]] ++ lb) W fun e w' => (∃ v, e = .returned v) ∧ ∃ W0, J all W0 ∧ Far T W0 w'

theorem range_all {α : Type} {P : Program} {n : Nat} {g : Operand} {ps : Array Tmp} {assign body : Code} {Q : Exit → Act → World → Prop} {a : Act} {w : World}
    {gf : Nat} {lb : Array Value} (hg : a.eval g = .func (.func gf) #[] lb) (eg : ∀ args w, (callFunc gf args).run P w = .ok (.enter gf args) w)
    {encs : α → Array Value} (hps : ∀ x, (encs x).size = ps.size) {T : Nat → Prop} {all : List α} (hT : ∀ i, T i → i < w.heap.size)
    (hseq : ∀ W, Below w.heap.size w W → Tells P (n - 1) gf lb encs T all (w.heap.size + 1) W)
    (I : List α → Nat → World → Prop)
    (hIs : ∀ pre B W W', I pre B W → Far (fun i => T i ∨ i = w.heap.size ∨ i = w.heap.size + 1) W W' → I pre B W')
    (h0 : ∀ W, Below w.heap.size w W → w.heap.size + 2 ≤ W.heap.size → I [] W.heap.size W) (A : List α → α → Nat → Act → World → Prop)
    (hAs : ∀ pre x B a' W W', A pre x B a' W → Far (fun i => T i ∨ i = w.heap.size ∨ i = w.heap.size + 1) W W' → A pre x B a' W')
    (hassign : ∀ (pre : List α) (x : α) (B : Nat) (W : World) (K : Act → World → Prop), I pre B W → B ≤ W.heap.size → w.heap.size + 2 ≤ B → (∀ a' W', A pre x B a' W' → Below W.heap.size W W' → K a' W') →
      assign.wpIn (Fence.wide.inRound (w.heap.size + 1)) (n - 1 - 1) P (Exit.then K (fun _ _ _ => False)) { tmps := (ps.zip (encs x)).foldl (fun t (p, v) => t.setIfInBounds p v) a.tmps, defers := [] } W)
    (hbody : ∀ (pre : List α) (x : α) (B : Nat) (a' : Act) (W : World), pre.length < all.length → A pre x B a' W → B ≤ W.heap.size → w.heap.size + 2 ≤ B → body.wpIn (Fence.wide.inRound (w.heap.size + 1)) (n - 1 - 1) P
      (fun e _ W' => e = .normal ∧ I (pre ++ [x]) W'.heap.size W' ∧ W.heap.size ≤ W'.heap.size ∧ ∀ i, (T i ∨ i = w.heap.size ∨ i = w.heap.size + 1 ∨ (B ≤ i ∧ i < W.heap.size)) → W'.heap[i]? = W.heap[i]?) a' W)
    (hdone : ∀ (B : Nat) (W : World), I all B W → W.heap[w.heap.size]? = some (.deferred (some [])) → Q .normal { a with defers := { target := .collected w.heap.size, args := #[] } :: a.defers } W) :
    (Code.rangeFunc g ps assign body).wpIn Fence.wide n P Q a w := by
  refine wpIn_rangeFunc ?_
  intro fn hfn
  obtain ⟨rec, hrec⟩ : ∃ rec : LoopState → Option Code → Loop, rec = fun st pe => { state := st, pending := pe, fn, tmps := a.tmps, params := ps, assign, body, defers := w.heap.size } := ⟨_, rfl⟩
  obtain ⟨D, hD⟩ : ∃ D, D = w.heap.size := ⟨_, rfl⟩
  obtain ⟨W1, hW1⟩ : ∃ W1, (w.alloc (.deferred (some []))).alloc (.loop (rec .ready none)) = W1 := ⟨_, rfl⟩
  have hL1 : W1.heap[D + 1]? = some (.loop (rec .ready none)) := by
    rw [← hW1, hD]; have := World.alloc_heap_new (w.alloc (.deferred (some []))) (.loop (rec .ready none)); rwa [World.size_alloc] at this
  have hK1 : W1.heap[D]? = some (.deferred (some [])) := by
    rw [← hW1, hD]; exact (Below.heap_alloc _ _ _ (by simp)).trans (World.alloc_heap_new w _)
  have hb1 : Below w.heap.size w W1 := by
    rw [← hW1]; exact ((Below.refl _ w).alloc (Nat.le_refl _) _).alloc (by simp) _
  have hs1 : D + 2 ≤ W1.heap.size := (Array.getElem?_eq_some_iff.1 hL1).1
  rw [← hD] at hT hseq hIs h0 hAs hassign hbody hdone
  refine ⟨D + 1, [{ target := .collected D, args := #[] }], W1, { target := .fn (.func gf) lb, args := #[.func (.yield (D + 1)) #[] #[]] }, W1, gf,
    #[.func (.yield (D + 1)) #[] #[]] ++ lb, W1, ?_, ?_, ?_, ?_, (fun h => (by cases h)), ?_⟩
  · rw [← hW1, hrec, hD]; exact run_enterLoop_outer _ _ _ _ _
  · simp only [resolve, hg]
    simp [go_sem]
  · intro f' _; trivial
  · simp [invoke, go_sem, eg]
  · refine (hseq W1 (hD ▸ hb1) (fun pre W => I pre W.heap.size W ∧ D + 2 ≤ W.heap.size ∧ W.heap[D + 1]? = some (.loop (rec .ready none)) ∧ W.heap[D]? = some (.deferred (some []))) ?_
      ⟨h0 W1 (hD ▸ hb1) hs1, hs1, hL1, hK1⟩).mono ?_
    · rintro pre x W0 W hpl ⟨hi, hsz, hl0, hk0⟩ hfar
      have hTl : ¬ T (D + 1) := fun h => by have := hT _ h; omega
      have hTd : ¬ T D := fun h => by have := hT _ h; omega
      have hl := hfar.blk hl0 hTl
      have hk := hfar.blk hk0 hTd
      have hlt : D + 1 < W.heap.size := (Array.getElem?_eq_some_iff.1 hl).1
      have hy := run_yield (P := P) (args := encs x) hl (by rw [hrec]; exact hps x)
      rw [hrec] at hy
      refine ⟨fn, _, assign, body, hy, roundIn_of_wpIn hfn (hassign pre x W0.heap.size W _ (hIs _ _ _ _ hi (hfar.mono (fun i h => .inl h))) hfar.size hsz ?_)⟩
      intro a' Wa hA hba
      have hla := (hba.block (D + 1) hlt).trans hl
      have hka := (hba.block D (by omega)).trans hk
      refine ⟨_, run_beginRound hla (by rw [hrec]), ?_⟩
      obtain ⟨Wb, hWb⟩ : ∃ Wb, Wa.putObj (D + 1) (.loop { rec .ready none with state := .busy }) = Wb := ⟨_, rfl⟩
      have hl2 : Wb.heap[D + 1]? = some (.loop { rec .ready none with state := .busy }) := by rw [← hWb]; exact World.putObj_heap_same (Nat.lt_of_lt_of_le hlt hba.size)
      have hk2 : Wb.heap[D]? = some (.deferred (some [])) := by rw [← hWb]; exact (World.putObj_heap_other (by omega)).trans hka
      have hfb : Far (fun i => T i ∨ i = D ∨ i = D + 1) Wa Wb := by
        rw [← hWb]
        exact (Far.refl _ _).putObj (.inl (.inr (.inr rfl))) _
      have hsb : Wb.heap.size = Wa.heap.size := by rw [← hWb]; simp
      have hob : ∀ i, i ≠ D + 1 → i < W.heap.size → Wb.heap[i]? = W.heap[i]? := fun i hi hlt => by rw [← hWb]; exact (World.putObj_heap_other hi).trans (hba.block i hlt)
      have hbd := hbody pre x W0.heap.size a' Wb hpl (hAs _ _ _ _ _ _ hA hfb) (by rw [hsb]; exact Nat.le_trans hfar.size hba.size) hsz
      rw [hrec] at hWb ⊢
      rw [hWb]
      refine wpIn_mono hbd ?_
      rintro e a3 W3 ⟨rfl, hi3, hs3, hkeep⟩
      rw [← hrec]
      have hl3 := (hkeep (D + 1) (.inr (.inr (.inl rfl)))).trans hl2
      have hk3 := (hkeep D (.inr (.inl rfl))).trans hk2
      have hr := run_endRound (P := P) none hl3
      rw [hrec] at hr
      have hlt3 : D + 1 < W3.heap.size := (Array.getElem?_eq_some_iff.1 hl3).1
      refine ⟨_, _, hr, rfl, ⟨?_, by simp; omega, by rw [hrec]; exact World.putObj_heap_same hlt3, (World.putObj_heap_other (by omega)).trans hk3⟩, ?_⟩
      · rw [World.putObj_size]
        exact hIs _ _ _ _ hi3 ((Far.refl _ _).putObj (.inl (.inr (.inr rfl))) _)
      · intro i hT'
        have hne : i ≠ D + 1 := by
          rcases hT' with h | h
          · intro e; rw [e] at h; exact hTl h
          · have := h.1; omega
        have hiw : i < W.heap.size := by
          rcases hT' with h | h
          · have := hT _ h; omega
          · exact h.2
        have hba' := hba.size
        rw [World.putObj_heap_other hne, hkeep i (by rcases hT' with h | h; exact .inl h; exact .inr (.inr (.inr ⟨h.1, by rw [hsb]; omega⟩))), hob i hne hiw]
    · rintro e W2 ⟨⟨v, rfl⟩, W0, ⟨hi, hsz, hl0, hk0⟩, hfar⟩
      have hl := hfar.blk hl0 (fun h => by have := hT _ h; omega)
      have hk := hfar.blk hk0 (fun h => by have := hT _ h; omega)
      refine ⟨none, _, by have := run_endLoop (P := P) hl (by rw [hrec]; simp); rw [hrec] at this; exact this, ?_⟩
      have hd := hdone W0.heap.size (W2.putObj (D + 1) (.loop { rec .ready none with state := .exhausted })) (hIs _ _ _ _ hi ((hfar.mono (fun i h => .inl h)).putObj (.inl (.inr (.inr rfl))) _)) ((World.putObj_heap_other (by omega)).trans hk)
      rw [hrec] at hd
      exact hd

end Go.Proofs.Ytejeehcmcadmcaa.Hand
