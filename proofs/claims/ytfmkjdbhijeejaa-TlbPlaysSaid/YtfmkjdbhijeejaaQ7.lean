/- A memory that isn't there; Clear: walked by hand. -/
import Derived.Test.YtfmkjdbhijeejaaQ6
import Derived.Test.YtfmkjdbhijeejaaT7
namespace Go.Proofs.Ytfmkjdbhijeejaa.Hand
set_option linter.unusedVariables false
set_option linter.unusedSimpArgs false
open Go.RowKit Go.Proofs.Ytfmkjdbhijeejaa.R Go.Proofs.YtfmkjdbhijeejaaW.PrintWords Go.Proofs.YtfmkjdbhijeejaaW.PrintMore

theorem find_nil (page use : Int) (w : World) : Calls Try.prog 8 #[.pointer none, .int .i64 page, .int .i64 use] w fun e w' => e = .returned (.tuple #[.int .i64 0, .bool false]) ∧ w' = w := by
  go_enter Try.func8, Try.ntmps8
  go_wp2
  go_returns
  exact ⟨rfl, rfl⟩
theorem clear_nil (w : World) : Calls Try.prog 14 #[.pointer none] w fun e w' => e = .returned (.tuple #[]) ∧ w' = w := by
  go_enter Try.func14, Try.ntmps14
  go_wp2
  go_returns
  exact ⟨rfl, rfl⟩
theorem hits_nil (w : World) : Calls Try.prog 9 #[.pointer none] w fun e w' => e = .returned (.int .i64 0) ∧ w' = w := by
  go_enter Try.func9, Try.ntmps9
  go_wp2
  go_returns
  exact ⟨rfl, rfl⟩
theorem misses_nil (w : World) : Calls Try.prog 10 #[.pointer none] w fun e w' => e = .returned (.int .i64 0) ∧ w' = w := by
  go_enter Try.func10, Try.ntmps10
  go_wp2
  go_returns
  exact ⟨rfl, rfl⟩
theorem frames_nil (w : World) : Calls Try.prog 15 #[.pointer none] w fun e w' => e = .returned (.slice none 0 0) ∧ w' = w := by
  go_enter Try.func15, Try.ntmps15
  go_wp2
  go_returns
  exact ⟨rfl, rfl⟩
/-- A list of one number that has just been laid. -/
theorem note_nil1 (w : World) (gl : Nat) (hgl : gl = w.heap.size) : Calls Try.prog 7 #[.pointer none, .int .i64 1, .int .i64 1, .slice (some ⟨gl, 0, none⟩) 1 1] (w.alloc (.cells #[.int .i64 1] 3 (0, 0))) fun e w' => e = .returned (.bool false) ∧ Below w.heap.size w w' := by
  subst hgl
  have hM := Aside0.mk (mask1_calls 1 w 1 true (by decide +kernel))
  go_enter Try.func7, Try.ntmps7
  go_wp2_with (go_at_call 22; refine hM.out.mono ?_; rintro e w' ⟨rfl, hd⟩; replace hd := Aside0.mk hd)
  go_returns
  exact ⟨rfl, below_step (below_alloc (Below.refl _ w) _) hd.out.below⟩
theorem flush_nil1 (w : World) (gl : Nat) (hgl : gl = w.heap.size) : Calls Try.prog 13 #[.pointer none, .slice (some ⟨gl, 0, none⟩) 1 1] (w.alloc (.cells #[.int .i64 1] 3 (0, 0))) fun e w' => e = .returned (.int .i64 0) ∧ Below w.heap.size w w' := by
  subst hgl
  have hb : (w.alloc (.cells #[.int .i64 1] 3 (0, 0))).heap[w.heap.size]? = some (.cells #[.int .i64 1] 3 (0, 0)) := blk_new w _
  have hB : Aside0 (Below w.heap.size w (w.alloc (.cells #[.int .i64 1] 3 (0, 0)))) := ⟨below_alloc (Below.refl _ w) _⟩
  have kc : (w.alloc (.cells #[.int .i64 1] 3 (0, 0))).cell? ⟨w.heap.size, 0, none⟩ = some (.int .i64 1) := (blk_cell hb 0).trans rfl
  generalize w.alloc (.cells #[.int .i64 1] 3 (0, 0)) = w1 at kc hB ⊢
  clear hb
  go_enter Try.func13, Try.ntmps13
  go_wp2
  go_loopg [5, 11] 1 (fun kq v5 v11 w' => ∃ (i : Nat), v5 = .int .i64 0 ∧ v11 = .int .i64 (i : Int) ∧ Aside0 (i + kq = 1) ∧ w' = w1)
  case atStart => exact ⟨0, rfl, rfl, ⟨rfl⟩, rfl⟩
  case round =>
    obtain ⟨i, rfl, rfl, HK, rfl⟩ := hrel
    cases gk with
    | zero =>
      obtain rfl : i = 1 := by have := HK.out; omega
      go_wp2
      go_returns
      exact ⟨rfl, hB.out⟩
    | succ k1 =>
      obtain rfl : i = 0 := by have := HK.out; omega
      go_wp2
      go_roundg k1
      case measure => omega
      case rel => exact ⟨1, rfl, rfl, ⟨by have := HK.out; omega⟩, rfl⟩

/-! Clear -/
def clrL (L : List Int) : Nat → Nat → List Int
  | _, 0 => L
  | o, n + 1 => clrL (L.set o 0) (o + 1) n
theorem clrL_length : ∀ (n : Nat) (L : List Int) (o : Nat), (clrL L o n).length = L.length
  | 0, _, _ => rfl
  | n + 1, L, o => by rw [clrL, clrL_length n, List.length_set]
theorem clrL_get : ∀ (n : Nat) (L : List Int) (o k : Nat), o + n ≤ L.length → (clrL L o n)[k]? = if o ≤ k ∧ k < o + n then some 0 else L[k]?
  | 0, L, o, k, h => by rw [clrL, if_neg (by omega)]
  | n + 1, L, o, k, h => by
    rw [clrL, clrL_get n _ _ _ (by rw [List.length_set]; omega), List.getElem?_set]
    by_cases e : o = k
    · subst e
      rw [if_neg (by omega), if_pos rfl, if_pos (by omega), if_pos (by omega)]
    · rw [if_neg e]
      by_cases e2 : o + 1 ≤ k ∧ k < o + 1 + n
      · rw [if_pos e2, if_pos (by omega)]
      · rw [if_neg e2, if_neg (by omega)]
theorem set_zeros {g : Nat} : ∀ (n : Nat) (w : World) (L : List Int) (o : Nat), w.heap[g]? = some (.cells (ints L) 53 (0, 0)) → (w.setCells g o (List.replicate n (Value.int .i64 0))).heap[g]? = some (.cells (ints (clrL L o n)) 53 (0, 0)) ∧ Far (fun x => x = g) w (w.setCells g o (List.replicate n (Value.int .i64 0)))
  | 0, w, L, o, h => ⟨h, Far.refl _ _⟩
  | n + 1, w, L, o, h => by
    rw [List.replicate_succ, World.setCells, clrL]
    obtain ⟨h1, h2⟩ := set_zeros n (w.setCell ⟨g, o, none⟩ (.int .i64 0)) (L.set o 0) (o + 1) (ints_set h o 0)
    exact ⟨h1, (Far.set1 (Far.refl _ w) _ _).then_ h2⟩
theorem built51 : Try.prog.built 51 [] = some (List.replicate 48 (Value.int .i64 0)).toArray := by kernel_rfl
section
variable {ops : Array Oper} {rest : List Oper} {o : Oper} {a : Act} {w : World} {Q : Exit → Act → World → Prop}
theorem gate_st51 {x y : Operand} (h : o.op = .store 51 x y) (k : wpList Try.prog ops Q (o :: rest) a w) : wpList Try.prog ops Q (o :: rest) a w := k
theorem wl_st51 (hgd : o.guard = none) (x y : Operand) (ho : o.op = .store 51 x y) {g : Nat} {L : List Int} (hx : a.eval x = .pointer (some ⟨g, 0, none⟩)) (hy : a.eval y = .agg (List.replicate 48 (Value.int .i64 0)).toArray) (h : w.heap[g]? = some (.cells (ints L) 53 (0, 0))) (hL : L.length = 50)
    (k : ∀ w', w'.heap[g]? = some (.cells (ints (clrL L 0 48)) 53 (0, 0)) → Far (fun x => x = g) w w' → wpList Try.prog ops Q rest (a.put o.dst undef) w') : wpList Try.prog ops Q (o :: rest) a w := by
  have hz := set_zeros 48 w L 0 h
  refine wpList_store_mid hgd 51 x y ho g 0 (List.replicate 48 (Value.int .i64 0)).toArray hx hy ?_ (by rw [info51]; rfl) (by decide +kernel) ?_
  · intro j hj
    rw [Nat.zero_add]
    have hj' : j < 48 := by simpa using hj
    refine ⟨?_, blk_frozen h j⟩
    rw [ints_cell h (List.getElem?_eq_getElem (by omega : j < L.length))]
    rfl
  · exact k _ hz.1 hz.2
end
set_option maxHeartbeats 8000000 in
set_option maxRecDepth 100000 in
theorem clear_calls (g : Nat) (L : List Int) (w : World) (hb : w.heap[g]? = some (.cells (ints L) 53 (0, 0))) (hL : L.length = 50) :
    Calls Try.prog 14 #[.pointer (some ⟨g, 0, none⟩)] w fun e w' => e = .returned (.tuple #[]) ∧ w'.heap[g]? = some (.cells (ints (clrL L 0 48)) 53 (0, 0)) ∧ Far (fun x => x = g) w w' := by
  replace hb := Aside0.mk hb
  replace hL := Aside0.mk hL
  go_enter Try.func14, Try.ntmps14
  go_wp2_with ((with_reducible refine gate_st51 rfl ?_); refine wl_st51 rfl _ _ rfl rfl rfl hb.out hL.out ?_; intro w2 h2 f2; replace h2 := Aside0.mk h2; replace f2 := Aside0.mk f2)
  go_returns
  exact ⟨rfl, h2.out, f2.out⟩
end Go.Proofs.Ytfmkjdbhijeejaa.Hand
