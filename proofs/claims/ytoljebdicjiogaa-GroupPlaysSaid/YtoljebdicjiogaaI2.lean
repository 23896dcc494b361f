/- A book that isn't there; any entry put; an entry's own box. -/
import Derived.Test.YtoljebdicjiogaaI1
namespace Go.Proofs.Ytoljebdicjiogaa.Hand
set_option linter.unusedVariables false
set_option linter.unusedSimpArgs false
open Go.RowKit Go.Maps Go.Proofs.Ytoljebdicjiogaa.R Go.Proofs.YtoljebdicjiogaaW.PrintWords Go.Proofs.YtoljebdicjiogaaW.PrintLast Go.Proofs.YtoljebdicjiogaaW.PrintMore

theorem best_nil (w : World) : Calls Try.prog 14 #[.pointer none, .slice none 0 0] w fun e w' => e = .returned (.tuple #[.int .i64 0, .bool false]) ∧ Below w.heap.size w w' := by
  have hN := Aside0.mk (numbers_nil _ none 0 0 rfl w)
  go_enter Try.func14, Try.ntmps14
  go_wp2_with (go_at_call 25; refine hN.out.mono ?_; rintro e w1 ⟨rfl, hb1⟩; replace hb1 := Aside0.mk hb1)
  go_loopg [6, 7, 15] 0 (fun kq v6 v7 v15 w' => v6 = .int .i64 0 ∧ v7 = .bool false ∧ v15 = .int .i64 0 ∧ w' = w1)
  case atStart => exact ⟨rfl, rfl, rfl, rfl⟩
  case round =>
    obtain ⟨rfl, rfl, rfl, rfl⟩ := hrel
    go_wp2
    go_returns
    exact ⟨rfl, hb1.out⟩
theorem worst_nil (w : World) : Calls Try.prog 15 #[.pointer none] w fun e w' => e = .returned (.tuple #[.int .i64 0, .bool false]) ∧ Below w.heap.size w w' := by
  have hN := Aside0.mk (numbers_nil _ none 0 0 rfl w)
  go_enter Try.func15, Try.ntmps15
  go_wp2_with (go_at_call 25; refine hN.out.mono ?_; rintro e w1 ⟨rfl, hb1⟩; replace hb1 := Aside0.mk hb1)
  go_loopg [4, 5, 13] 0 (fun kq v6 v7 v15 w' => v6 = .int .i64 0 ∧ v7 = .bool false ∧ v15 = .int .i64 0 ∧ w' = w1)
  case atStart => exact ⟨rfl, rfl, rfl, rfl⟩
  case round =>
    obtain ⟨rfl, rfl, rfl, rfl⟩ := hrel
    go_wp2
    go_returns
    exact ⟨rfl, hb1.out⟩
theorem room_nil (w : World) : Calls Try.prog 18 #[.pointer none, .slice none 0 0] w fun e w' => e = .returned (.int .i64 0) ∧ Below w.heap.size w w' := by
  have hN := Aside0.mk (numbers_nil _ none 0 0 rfl w)
  go_enter Try.func18, Try.ntmps18
  go_wp2_with (go_at_call 25; refine hN.out.mono ?_; rintro e w1 ⟨rfl, hb1⟩; replace hb1 := Aside0.mk hb1)
  go_loopg [5, 12] 0 (fun kq v6 v15 w' => v6 = .int .i64 0 ∧ v15 = .int .i64 0 ∧ w' = w1)
  case atStart => exact ⟨rfl, rfl, rfl⟩
  case round =>
    obtain ⟨rfl, rfl, rfl⟩ := hrel
    go_wp2
    go_returns
    exact ⟨rfl, hb1.out⟩
theorem count_nil (w : World) : Calls Try.prog 13 #[.pointer none, .int .i64 0] w fun e w' => e = .returned (.int .i64 0) ∧ Below w.heap.size w w' := by
  have hN := Aside0.mk (numbers_nil _ none 0 0 rfl w)
  go_enter Try.func13, Try.ntmps13
  go_wp2_with (go_at_call 25; refine hN.out.mono ?_; rintro e w1 ⟨rfl, hb1⟩; replace hb1 := Aside0.mk hb1)
  go_loopg [5, 12] 0 (fun kq v6 v15 w' => v6 = .int .i64 0 ∧ v15 = .int .i64 0 ∧ w' = w1)
  case atStart => exact ⟨rfl, rfl, rfl⟩
  case round =>
    obtain ⟨rfl, rfl, rfl⟩ := hrel
    go_wp2
    go_returns
    exact ⟨rfl, hb1.out⟩
/-- An entry's own box. -/
theorem box3 (w : World) (a b c : Int) (w' : World) (h : Below (w.alloc (.cells #[.int .i64 a, .int .i64 b, .int .i64 c] 30 (0, 0))).heap.size (w.alloc (.cells #[.int .i64 a, .int .i64 b, .int .i64 c] 30 (0, 0))) w') :
    w'.cell? ⟨w.heap.size, 0, none⟩ = some (.int .i64 a) ∧ w'.cell? ⟨w.heap.size, 1, none⟩ = some (.int .i64 b) ∧ w'.cell? ⟨w.heap.size, 2, none⟩ = some (.int .i64 c) := by
  have hb := blk_new w (.cells #[.int .i64 a, .int .i64 b, .int .i64 c] 30 (0, 0))
  exact ⟨pw_cell_below h ((blk_cell hb 0).trans rfl), pw_cell_below h ((blk_cell hb 1).trans rfl), pw_cell_below h ((blk_cell hb 2).trans rfl)⟩
theorem box_far {w w' : World} {mb gb : Nat} {a b c : Int} (f : Far (fun x => x = mb) w w') (ne : gb ≠ mb)
    (h : w.cell? ⟨gb, 0, none⟩ = some (.int .i64 a) ∧ w.cell? ⟨gb, 1, none⟩ = some (.int .i64 b) ∧ w.cell? ⟨gb, 2, none⟩ = some (.int .i64 c)) :
    w'.cell? ⟨gb, 0, none⟩ = some (.int .i64 a) ∧ w'.cell? ⟨gb, 1, none⟩ = some (.int .i64 b) ∧ w'.cell? ⟨gb, 2, none⟩ = some (.int .i64 c) := by
  have hl : gb < w.heap.size := World.block_lt_of_cell? w _ h.1
  have e : ∀ k, w'.cell? ⟨gb, k, none⟩ = w.cell? ⟨gb, k, none⟩ := fun k => World.cell?_of_block (f.block gb hl ne)
  rw [e, e, e]
  exact h
/-- Any entry put: what is answered, the map, the document's list. -/
theorem put_any {W w : World} {bb mb n : Nat} {v : Value} {D : DataW Unit} {l : List S30} (h : GI W bb mb v n D l w) (hn : n ≤ 100000) (hl : l.length ≤ 1000000) (x : S30) (hx : x.f2 ≤ 100000000) :
    ∃ b D' l', (Calls Try.prog 11 #[.pointer (some ⟨bb, 0, none⟩), .int .i64 x.f0, .int .i64 x.f1, .int .i64 x.f2] w fun e w' => e = .returned (.bool b) ∧ BK w' bb mb (n + 1) D' ∧ Far (fun x => x = mb) w w') ∧ RelD D' l' ∧ l'.length ≤ l.length + 1 ∧ gunnyref18_Put.f (l.length + 1) l x.f0 x.f1 x.f2 = some (l', b) := by
  by_cases c : 0 ≤ x.f0 ∧ x.f0 ≤ 4095 ∧ 0 ≤ x.f1 ∧ x.f1 ≤ x.f2
  · refine ⟨true, _, putL l x, put_yes bb mb n D x.f0 x.f1 x.f2 w h.bk hn c.1 c.2.1 c.2.2.1 c.2.2.2, h.rel.put h.bk.own.isMap x ⟨c.1, c.2.1, c.2.2.1, c.2.2.2, hx⟩, ?_, put_some h.rel.nd hl x c.1 c.2.1 c.2.2.1 c.2.2.2⟩
    unfold putL dropL
    rw [List.length_append, List.length_singleton]
    have := List.length_filter_le (fun h : S30 => h.f0 != x.f0) l
    omega
  · refine ⟨false, D, l, (put_no bb x.f0 x.f1 x.f2 w (by omega)).mono ?_, h.rel, by omega, put_bad l x (by omega)⟩
    rintro e w' ⟨rfl, rfl⟩
    exact ⟨rfl, ⟨h.bk.blk, h.bk.own.mono (Nat.le_succ _)⟩, Far.refl _ _⟩
end Go.Proofs.Ytoljebdicjiogaa.Hand
