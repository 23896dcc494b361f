/- The document's Put and Drop: plain, and in memory beside a book. -/
import Derived.Test.YtoljebdicjiogaaH1
import Derived.Test.YtoljebdicjiogaaRx3
namespace Go.Proofs.Ytoljebdicjiogaa.Hand
set_option linter.unusedVariables false
set_option linter.unusedSimpArgs false
open Go.RowKit Go.Maps Go.Proofs.Ytoljebdicjiogaa.R Go.Proofs.YtoljebdicjiogaaW.PrintWords Go.Proofs.YtoljebdicjiogaaW.PrintLast Go.Proofs.YtoljebdicjiogaaW.PrintMore

theorem dropL_at {l : List S30} (hnd : (l.map (·.f0)).Nodup) (j : Nat) (hj : j < l.length) : l.take j ++ l.drop (j + 1) = dropL l l[j].f0 := by
  have hsplit : l = l.take j ++ l[j] :: l.drop (j + 1) := by
    rw [← List.drop_eq_getElem_cons hj, List.take_append_drop]
  have hnd2 : ((l.take j ++ l[j] :: l.drop (j + 1)).map (·.f0)).Nodup := by rw [← hsplit]; exact hnd
  rw [List.map_append, List.map_cons] at hnd2
  obtain ⟨h1, h2, h3⟩ := List.nodup_append.1 hnd2
  rw [List.nodup_cons] at h2
  have e1 : (l.take j).filter (fun h => h.f0 != l[j].f0) = l.take j := List.filter_eq_self.2 (fun y hy => by
    have := h3 y.f0 (List.mem_map.2 ⟨y, hy, rfl⟩) l[j].f0 (List.mem_cons_self ..)
    simpa using this)
  have e2 : (l.drop (j + 1)).filter (fun h => h.f0 != l[j].f0) = l.drop (j + 1) := List.filter_eq_self.2 (fun y hy => by
    have : y.f0 ≠ l[j].f0 := fun e => h2.1 (List.mem_map.2 ⟨y, hy, e⟩)
    simpa using this)
  have e3 : dropL l l[j].f0 = dropL (l.take j ++ l[j] :: l.drop (j + 1)) l[j].f0 := congrArg (fun z => dropL z l[j].f0) hsplit
  rw [e3]
  unfold dropL
  rw [List.filter_append, List.filter_cons, e1, e2, if_neg (by simp)]
theorem drop_some {l : List S30} (hnd : (l.map (·.f0)).Nodup) (hl : l.length ≤ 1000000) (a : Int) : gunnyref18_Drop.f (l.length + 1) l a = some (dropL l a, l.any (fun h => h.f0 == a)) := by
  obtain ⟨r, h1, h2⟩ := at_some l a (by omega)
  unfold gunnyref18_Drop.f
  rw [h1]
  rcases h2 with ⟨rfl, h3⟩ | ⟨j, hj, rfl, h3⟩
  · rw [Option.bind_some, if_pos (by decide : (-1 : Int) < 0)]
    have e1 : dropL l a = l := List.filter_eq_self.2 (fun y hy => by simpa using h3 y hy)
    have e2 : l.any (fun h => h.f0 == a) = false := List.any_eq_false.2 (fun y hy => by simpa using h3 y hy)
    rw [e1, e2]
  · have e2 : l.any (fun h => h.f0 == a) = true := List.any_eq_true.2 ⟨l[j], List.getElem_mem hj, by simpa using h3⟩
    have e3 := dropL_at hnd j hj
    rw [h3] at e3
    have ew : wrap64 ((j : Int) + 1) = ((j + 1 : Nat) : Int) := w64s j (by omega)
    have l1 : (l.take j).length = j := by rw [List.length_take]; omega
    have l2 : (l.drop (j + 1)).length = l.length - (j + 1) := List.length_drop
    rw [Option.bind_some, if_neg (by omega : ¬ (j : Int) < 0)]
    simp only [Option.bind_some, ew, Int.toNat_natCast, List.nil_append, List.length_nil, Nat.zero_add, l1, l2]
    rw [if_pos (by omega), if_pos (by omega), if_pos (by omega), if_pos (by omega), if_pos (by omega), if_pos (by omega), e3, e2]
theorem put_some {l : List S30} (hnd : (l.map (·.f0)).Nodup) (hl : l.length ≤ 1000000) (x : S30) (h1 : 0 ≤ x.f0) (h2 : x.f0 ≤ 4095) (h3 : 0 ≤ x.f1) (h4 : x.f1 ≤ x.f2) : gunnyref18_Put.f (l.length + 1) l x.f0 x.f1 x.f2 = some (putL l x, true) := by
  have hd := drop_some hnd hl x.f0
  have hle : (dropL l x.f0).length ≤ l.length := List.length_filter_le _ _
  unfold gunnyref18_Put.f
  rw [if_neg (by omega), if_neg (by omega), if_neg (by omega), if_neg (by omega), hd]
  simp only [Option.bind_some, List.nil_append, List.length_nil, Nat.zero_add, List.length_singleton]
  rw [if_pos (by omega), if_pos (by omega)]
  rfl
theorem put_bad (l : List S30) (x : S30) (h : x.f0 < 0 ∨ x.f0 > 4095 ∨ x.f1 < 0 ∨ x.f1 > x.f2) : gunnyref18_Put.f (l.length + 1) l x.f0 x.f1 x.f2 = some (l, false) := by
  unfold gunnyref18_Put.f
  by_cases h1 : x.f0 < 0
  · rw [if_pos h1]
  · by_cases h2 : x.f0 > 4095
    · rw [if_neg h1, if_pos h2]
    · by_cases h3 : x.f1 < 0
      · rw [if_neg h1, if_neg h2, if_pos h3]
      · rw [if_neg h1, if_neg h2, if_neg h3, if_pos (by omega)]

/-! beside a book -/
theorem BK.same {w w' : World} {bb mb n : Nat} {D : DataW Unit} (h : BK w bb mb n D) (h1 : w'.heap[bb]? = w.heap[bb]?) (h2 : w'.heap[mb]? = w.heap[mb]?) : BK w' bb mb n D := by
  refine ⟨h1.trans h.blk, ?_⟩
  obtain ⟨es, clock, hb, F, hs, hD⟩ := h.own
  exact ⟨es, clock, h2.trans hb, F, hs, hD⟩
/-- What a law's loop keeps: the book, the document's list beside it. -/
structure GI (W0 : World) (bb mb : Nat) (v : Value) (n : Nat) (D : DataW Unit) (l : List S30) (w : World) : Prop where
  bk : BK w bb mb n D
  rel : RelD D l
  x : Kd.R k30 30 w W0.heap.size (fun k => k ≠ bb ∧ k ≠ mb) v l
  bel : Below W0.heap.size W0 w
  lo : W0.heap.size ≤ bb ∧ W0.heap.size ≤ mb
theorem BK.mlt {w : World} {bb mb n : Nat} {D : DataW Unit} (h : BK w bb mb n D) : bb < w.heap.size ∧ mb < w.heap.size := ⟨blk_lt h.blk, h.own.lt⟩
theorem GI.below {W0 w w' : World} {bb mb n : Nat} {v : Value} {D : DataW Unit} {l : List S30} (h : GI W0 bb mb v n D l w) (k : Below w.heap.size w w') : GI W0 bb mb v n D l w' :=
  ⟨h.bk.below k, h.rel, Kd.R_below h.x k, below_step h.bel k, h.lo⟩
theorem GI.mono {W0 w : World} {bb mb n m : Nat} {v : Value} {D : DataW Unit} {l : List S30} (h : GI W0 bb mb v n D l w) (hn : n ≤ m) : GI W0 bb mb v m D l w :=
  ⟨⟨h.bk.blk, h.bk.own.mono hn⟩, h.rel, h.x, h.bel, h.lo⟩
theorem far_below0 {W0 w w' : World} {g : Nat} (h : Below W0.heap.size W0 w) (f : Far (fun x => x = g) w w') (hg : W0.heap.size ≤ g) : Below W0.heap.size W0 w' :=
  h.trans (f.below h.size (fun i e => by rw [e]; exact hg))
theorem x_far {W0 w w' : World} {bb mb : Nat} {v : Value} {l : List S30} (hx : Kd.R k30 30 w W0.heap.size (fun k => k ≠ bb ∧ k ≠ mb) v l) (f : Far (fun x => x = mb) w w') : Kd.R k30 30 w' W0.heap.size (fun k => k ≠ bb ∧ k ≠ mb) v l :=
  Kd.R_step hx (fun k hk hlt => f.block k hlt (fun e => hk.2 e))
/-- The document's Put, a book and its entry being put. -/
theorem rput_calls {W0 w : World} {bb mb n : Nat} {v : Value} {D : DataW Unit} {l : List S30} (x : S30) (l' : List S30) (b : Bool) (hbk : BK w bb mb n D) (hx : Kd.R k30 30 w W0.heap.size (fun k => k ≠ bb ∧ k ≠ mb) v l) (hbel : Below W0.heap.size W0 w)
    (hp : gunnyref18_Put.f (l.length + 1) l x.f0 x.f1 x.f2 = some (l', b)) :
    Calls Try.prog 12 #[v, .agg #[.int .i64 x.f0, .int .i64 x.f1, .int .i64 x.f2]] w fun e w' => ∃ v', e = .returned (.tuple #[v', .bool b]) ∧ BK w' bb mb n D ∧ Kd.R k30 30 w' W0.heap.size (fun k => k ≠ bb ∧ k ≠ mb) v' l' ∧ Below W0.heap.size W0 w' := by
  refine (gunnyref18_Put.calls (l.length + 1) (fun k => k ≠ bb ∧ k ≠ mb) v l x.f0 x.f1 x.f2 l' b W0 w hbel hx hp).mono ?_
  rintro e w' ⟨v', rfl, hR, hb, hk⟩
  have hlt := hbk.mlt
  exact ⟨v', rfl, hbk.same (hk.2 bb hlt.1 (fun h => h.1 rfl)) (hk.2 mb hlt.2 (fun h => h.2 rfl)), Kd.R_mono hR (fun k h => h.elim (fun h => h) (fun h => ⟨by omega, by omega⟩)), hb⟩
theorem rdrop_calls {W0 w : World} {bb mb n : Nat} {v : Value} {D : DataW Unit} {l : List S30} (a : Int) (l' : List S30) (b : Bool) (hbk : BK w bb mb n D) (hx : Kd.R k30 30 w W0.heap.size (fun k => k ≠ bb ∧ k ≠ mb) v l) (hbel : Below W0.heap.size W0 w)
    (hp : gunnyref18_Drop.f (l.length + 1) l a = some (l', b)) :
    Calls Try.prog 19 #[v, .int .i64 a] w fun e w' => ∃ v', e = .returned (.tuple #[v', .bool b]) ∧ BK w' bb mb n D ∧ Kd.R k30 30 w' W0.heap.size (fun k => k ≠ bb ∧ k ≠ mb) v' l' ∧ Below W0.heap.size W0 w' := by
  refine (gunnyref18_Drop.calls (l.length + 1) (fun k => k ≠ bb ∧ k ≠ mb) v l a l' b W0 w hbel hx hp).mono ?_
  rintro e w' ⟨v', rfl, hR, hb, hk⟩
  have hlt := hbk.mlt
  exact ⟨v', rfl, hbk.same (hk.2 bb hlt.1 (fun h => h.1 rfl)) (hk.2 mb hlt.2 (fun h => h.2 rfl)), Kd.R_mono hR (fun k h => h.elim (fun h => h) (fun h => ⟨by omega, by omega⟩)), hb⟩
end Go.Proofs.Ytoljebdicjiogaa.Hand
