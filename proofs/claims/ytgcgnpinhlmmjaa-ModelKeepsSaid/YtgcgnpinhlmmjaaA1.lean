/- A model's pages in memory: what is kept, what a lookup tells, what a write of a byte changes. -/
import Derived.Test.YtgcgnpinhlmmjaaA0
import Derived.Test.YtgcgnpinhlmmjaaFar
import Derived.Maps.OwnOps
import Derived.Maps.OwnSet
import Derived.Maps.Views
import Derived.Laws.MakeOwn
namespace Go.Proofs.Ytgcgnpinhlmmjaa.Hand
set_option linter.unusedVariables false
set_option linter.unusedSimpArgs false
open Go.RowKit Go.Maps Go.Proofs.Ytgcgnpinhlmmjaa.R Go.Proofs.YtgcgnpinhlmmjaaW.PrintWords Go.Proofs.YtgcgnpinhlmmjaaW.PrintLast Go.Proofs.YtgcgnpinhlmmjaaW.PrintMore

/-! an entry of the map: a pointer -/
def ptrD : Option Nat → DataW Unit
  | none => .lit (.int .i64 (-1))
  | some b => .lit (.int .i64 (b : Int))
def ptrV : Option Nat → Value
  | none => .pointer none
  | some b => .pointer (some ⟨b, 0, none⟩)
def ptrR : Value → Option (DataW Unit × List MemPlace)
  | .pointer none => some (ptrD none, [])
  | .pointer (some ⟨b, 0, none⟩) => some (ptrD (some b), [])
  | _ => none
theorem ptrR_mk (b : Option Nat) : ptrR (ptrV b) = some (ptrD b, []) := by cases b <;> rfl
theorem ptrD_inj {a b : Option Nat} (h : ptrD a = ptrD b) : a = b := by
  cases a with
  | none => cases b with
    | none => rfl
    | some y => simp only [ptrD, DataW.lit.injEq, Lit.int.injEq, true_and] at h; omega
  | some x => cases b with
    | none => simp only [ptrD, DataW.lit.injEq, Lit.int.injEq, true_and] at h; omega
    | some y =>
      simp only [ptrD, DataW.lit.injEq, Lit.int.injEq, true_and] at h
      have : x = y := by omega
      rw [this]
theorem ptrR_inv {v : Value} {b : Option Nat} {ps : List MemPlace} (h : ptrR v = some (ptrD b, ps)) : v = ptrV b := by
  unfold ptrR at h
  split at h
  · have h1 : ptrD none = ptrD b := congrArg Prod.fst (Option.some.inj h)
    rw [← ptrD_inj h1]; rfl
  · rename_i k
    have h1 : ptrD (some k) = ptrD b := congrArg Prod.fst (Option.some.inj h)
    rw [← ptrD_inj h1]; rfl
  · cases h
theorem law3 : Keyed Try.prog 3 := int_keyed Try.underlying3
theorem zero72 (w : World) : (zeroValue 72).run Try.prog w = .ok (.pointer none) w := by kernel_rfl

/-! a page's bytes -/
def bs (l : List Int) : Array Value := (l.map (Value.int .u8)).toArray
theorem bs_get (l : List Int) (i : Nat) (h : i < l.length) : (bs l)[i]? = some (.int .u8 (l.getD i 0)) := by
  unfold bs
  rw [List.getElem?_toArray, List.getElem?_map, List.getD_eq_getElem?_getD, List.getElem?_eq_getElem h]
  rfl
theorem bs_set (l : List Int) (i : Nat) (x : Int) : (bs l).setIfInBounds i (.int .u8 x) = bs (l.set i x) := by
  unfold bs
  rw [List.setIfInBounds_toArray, List.map_set]
theorem bs_zero (n : Nat) : madeCells #[.int .u8 0] n = bs (List.replicate n 0) := by
  unfold madeCells bs
  apply Array.ext
  · simp
  · intro i h1 h2
    simp [Nat.mod_one]

/-- A model in memory: the blocks of page n are B n's. -/
structure MD (w : World) (base bb mb cnt : Nat) (D : DataW Unit) (L : List Pg) (B : Int → Nat × Nat) : Prop where
  blk : w.heap[bb]? = some (.cells #[.map (some mb)] 68 (0, 0))
  own : w.ownsMap Try.prog 3 ptrR mb cnt D
  srt : Srt L
  okp : okP L
  has : ∀ n : Int, Maps.has D (.int .i64 n) = hasP L n
  at_ : ∀ p ∈ L, ∀ z, D.atKey (.int .i64 p.n) z = ptrD (some (B p.n).1)
  pg : ∀ p ∈ L, w.heap[(B p.n).1]? = some (.cells #[.int .i64 p.perm, .slice (some ⟨(B p.n).2, 0, none⟩) 4096 4096] 75 (0, 0))
  dt : ∀ p ∈ L, w.heap[(B p.n).2]? = some (.cells (bs p.data) 5 (0, 0))
  ap : ∀ p ∈ L, ∀ q ∈ L, p.n ≠ q.n → (B p.n).1 ≠ (B q.n).1 ∧ (B p.n).2 ≠ (B q.n).2
  lo : base ≤ bb ∧ base ≤ mb ∧ ∀ p ∈ L, base ≤ (B p.n).1 ∧ base ≤ (B p.n).2
/-- Its blocks, but for the model's own cell, which is never written. -/
def Mown (mb : Nat) (L : List Pg) (B : Int → Nat × Nat) (k : Nat) : Prop := k = mb ∨ ∃ p ∈ L, k = (B p.n).1 ∨ k = (B p.n).2
theorem MD.own_lt {w : World} {base bb mb cnt : Nat} {D : DataW Unit} {L : List Pg} {B : Int → Nat × Nat} (h : MD w base bb mb cnt D L B) (k : Nat) (hk : k = bb ∨ Mown mb L B k) : base ≤ k ∧ k < w.heap.size := by
  rcases hk with rfl | rfl | ⟨p, hp, rfl | rfl⟩
  · exact ⟨h.lo.1, blk_lt h.blk⟩
  · exact ⟨h.lo.2.1, h.own.lt⟩
  · exact ⟨(h.lo.2.2 p hp).1, blk_lt (h.pg p hp)⟩
  · exact ⟨(h.lo.2.2 p hp).2, blk_lt (h.dt p hp)⟩
theorem Below_low {B B' : Nat} {w w' : World} (h : Below B' w w') (hb : B ≤ B') : Below B w w' := ⟨h.os, h.tape, h.output, h.size, fun k hk => h.block k (by omega)⟩
theorem own_far {w w' : World} {b n : Nat} {D : DataW Unit} {S : Nat → Prop} (h : w.ownsMap Try.prog 3 ptrR b n D) (f : Far S w w') (hn : ¬ S b) : w'.ownsMap Try.prog 3 ptrR b n D := by
  obtain ⟨es, clock, hb, Ft, hs, hD⟩ := h
  exact ⟨es, clock, f.blk hb hn, Ft, hs, hD⟩
theorem MD.stay {w w' : World} {base bb mb cnt : Nat} {D : DataW Unit} {L : List Pg} {B : Int → Nat × Nat} {S : Nat → Prop} (h : MD w base bb mb cnt D L B) (f : Far S w w') (hd : ∀ k, k = bb ∨ Mown mb L B k → ¬ S k) : MD w' base bb mb cnt D L B :=
  ⟨f.blk h.blk (hd _ (.inl rfl)), own_far h.own f (hd _ (.inr (.inl rfl))), h.srt, h.okp, h.has, h.at_, fun p hp => f.blk (h.pg p hp) (hd _ (.inr (.inr ⟨p, hp, .inl rfl⟩))), fun p hp => f.blk (h.dt p hp) (hd _ (.inr (.inr ⟨p, hp, .inr rfl⟩))), h.ap, h.lo⟩
theorem MD.below {w w' : World} {base bb mb cnt : Nat} {D : DataW Unit} {L : List Pg} {B : Int → Nat × Nat} (h : MD w base bb mb cnt D L B) (k : Below w.heap.size w w') : MD w' base bb mb cnt D L B := h.stay (S := fun _ => False) (Far.of_below k) (fun _ _ h => h)
theorem MD.drewN {w : World} {base bb mb cnt : Nat} {D : DataW Unit} {L : List Pg} {B : Int → Nat × Nat} (h : MD w base bb mb cnt D L B) (n : Nat) : MD (w.drewN n) base bb mb cnt D L B := h.below (pw_below_drewN (Below.refl _ _) n)
theorem MD.drew {w : World} {base bb mb cnt : Nat} {D : DataW Unit} {L : List Pg} {B : Int → Nat × Nat} (h : MD w base bb mb cnt D L B) : MD w.drew base bb mb cnt D L B := h.below (below_drew1 (Below.refl _ _))
theorem MD.low {w : World} {base base' bb mb cnt : Nat} {D : DataW Unit} {L : List Pg} {B : Int → Nat × Nat} (h : MD w base bb mb cnt D L B) (hb : base' ≤ base) : MD w base' bb mb cnt D L B :=
  ⟨h.blk, h.own, h.srt, h.okp, h.has, h.at_, h.pg, h.dt, h.ap, ⟨Nat.le_trans hb h.lo.1, Nat.le_trans hb h.lo.2.1, fun p hp => ⟨Nat.le_trans hb (h.lo.2.2 p hp).1, Nat.le_trans hb (h.lo.2.2 p hp).2⟩⟩⟩
theorem MD.mono {w : World} {base bb mb cnt cnt' : Nat} {D : DataW Unit} {L : List Pg} {B : Int → Nat × Nat} (h : MD w base bb mb cnt D L B) (hc : cnt ≤ cnt') : MD w base bb mb cnt' D L B :=
  ⟨h.blk, h.own.mono hc, h.srt, h.okp, h.has, h.at_, h.pg, h.dt, h.ap, h.lo⟩
/-- Where a page is kept. -/
def pbOf (L : List Pg) (B : Int → Nat × Nat) (n : Int) : Option Nat := (getP L n).map (fun p => (B p.n).1)
theorem MD.datum {w : World} {base bb mb cnt : Nat} {D : DataW Unit} {L : List Pg} {B : Int → Nat × Nat} (h : MD w base bb mb cnt D L B) (n : Int) : D.atKey (.int .i64 n) (ptrD none) = ptrD (pbOf L B n) := by
  unfold pbOf
  cases hg : getP L n with
  | none =>
    have h1 : Maps.has D (.int .i64 n) = false := by rw [h.has n, hasP_get, hg]; rfl
    exact atKey_of_not_has h1 _
  | some p =>
    obtain ⟨h1, h2⟩ := getP_mem hg
    rw [← h2]
    exact h.at_ p h1 _
theorem MD.look {w : World} {base bb mb cnt : Nat} {D : DataW Unit} {L : List Pg} {B : Int → Nat × Nat} (h : MD w base bb mb cnt D L B) (n : Int) (hn : 0 ≤ n ∧ n < 68719476736) (W : World) (hW : Below w.heap.size w W) :
    (Instr.lookup 66 (.map (some mb)) (.int .i64 n) false).run Try.prog W = .ok (ptrV (pbOf L B n)) W := by
  have hk : (Lit.int .i64 n).wf = true := WalkArith.wf_i64 (by omega)
  obtain ⟨v, ps, hrun, hv⟩ := (h.below hW).own.lookup law3 Try.underlying66 (zero72 W) (ptrR_mk none) (keyOf_int_mk Try.underlying3 hk)
  rw [h.datum n] at hv
  rw [ptrR_inv hv] at hrun
  exact hrun
theorem MD.look_ok {w : World} {base bb mb cnt : Nat} {D : DataW Unit} {L : List Pg} {B : Int → Nat × Nat} (h : MD w base bb mb cnt D L B) (n : Int) (hn : 0 ≤ n ∧ n < 68719476736) (W : World) (hW : Below w.heap.size w W) :
    (Instr.lookup 66 (.map (some mb)) (.int .i64 n) true).run Try.prog W = .ok (.tuple #[ptrV (pbOf L B n), .bool (hasP L n)]) W := by
  have hk : (Lit.int .i64 n).wf = true := WalkArith.wf_i64 (by omega)
  obtain ⟨v, ps, hrun, hv⟩ := (h.below hW).own.look_ok law3 Try.underlying66 (zero72 W) (ptrR_mk none) (keyOf_int_mk Try.underlying3 hk)
  rw [h.datum n] at hv
  rw [ptrR_inv hv, h.has n] at hrun
  exact hrun
/-- Where pages are laid anew in place: one page's blocks are written. -/
theorem MD.rep {w w' : World} {base bb mb cnt : Nat} {D : DataW Unit} {L : List Pg} {B : Int → Nat × Nat} (h : MD w base bb mb cnt D L B) (p : Pg) (hp : p ∈ L) (x : Pg) (hx : x.n = p.n)
    (hok : permB x.perm = true ∧ x.data.length = 4096 ∧ ∀ y ∈ x.data, 0 ≤ y ∧ y < 256)
    (f : Far (fun k => k = (B p.n).1 ∨ k = (B p.n).2) w w')
    (h1 : w'.heap[(B p.n).1]? = some (.cells #[.int .i64 x.perm, .slice (some ⟨(B p.n).2, 0, none⟩) 4096 4096] 75 (0, 0))) (h2 : w'.heap[(B p.n).2]? = some (.cells (bs x.data) 5 (0, 0))) : MD w' base bb mb cnt D (repP L x) B := by
  have hmap : ∃ es clock, w.heap[mb]? = some (.map es clock) := by
    obtain ⟨es, clock, hb, _⟩ := h.own
    exact ⟨es, clock, hb⟩
  obtain ⟨es, clock, hm⟩ := hmap
  have n1 : bb ≠ (B p.n).1 := blk_ne h.blk (h.pg p hp) (by decide)
  have n2 : bb ≠ (B p.n).2 := blk_ne h.blk (h.dt p hp) (by decide)
  have n3 : mb ≠ (B p.n).1 := fun e => by have := h.pg p hp; rw [← e, hm] at this; cases this
  have n4 : mb ≠ (B p.n).2 := fun e => by have := h.dt p hp; rw [← e, hm] at this; cases this
  have hhx : hasP L x.n = true := hasP_iff.2 ⟨p, hp, hx.symm⟩
  have key : ∀ {q : Pg}, q ∈ repP L x → ∃ q' ∈ L, q'.n = q.n := fun {q} hq => by
    rcases mem_repP hq with ⟨rfl, _⟩ | ⟨hq, _⟩
    · exact ⟨p, hp, hx.symm⟩
    · exact ⟨q, hq, rfl⟩
  refine ⟨f.blk h.blk (fun e => e.elim n1 n2), own_far h.own f (fun e => e.elim n3 n4), h.srt.rep x, h.okp.rep x ⟨by rw [hx]; exact (h.okp p hp).1, hok⟩, fun n => by rw [hasP_rep]; exact h.has n, ?_, ?_, ?_, ?_, h.lo.1, h.lo.2.1, ?_⟩
  · intro q hq z
    obtain ⟨q', hq', e⟩ := key hq
    rw [← e]
    exact h.at_ q' hq' z
  · intro q hq
    rcases mem_repP hq with ⟨rfl, _⟩ | ⟨hq, hne⟩
    · rw [hx]; exact h1
    · have := h.ap q hq p hp (by rw [← hx]; exact hne)
      refine f.blk (h.pg q hq) (fun e => e.elim this.1 (fun e => ?_))
      exact absurd rfl (blk_ne (h.pg q hq) (e ▸ h.dt p hp) (by decide))
  · intro q hq
    rcases mem_repP hq with ⟨rfl, _⟩ | ⟨hq, hne⟩
    · rw [hx]; exact h2
    · have := h.ap q hq p hp (by rw [← hx]; exact hne)
      refine f.blk (h.dt q hq) (fun e => e.elim (fun e => ?_) this.2)
      exact absurd rfl (blk_ne (h.dt q hq) (e ▸ h.pg p hp) (by decide))
  · intro q hq r hr hne
    obtain ⟨q', hq', e⟩ := key hq
    obtain ⟨r', hr', e'⟩ := key hr
    rw [← e, ← e'] at hne ⊢
    exact h.ap q' hq' r' hr' hne
  · intro q hq
    obtain ⟨q', hq', e⟩ := key hq
    rw [← e]
    exact h.lo.2.2 q' hq'
theorem far_mono_own {w w' : World} {mb : Nat} {L : List Pg} {B : Int → Nat × Nat} {p : Pg} (hp : p ∈ L) (f : Far (fun k => k = (B p.n).1 ∨ k = (B p.n).2) w w') : Far (Mown mb L B) w w' :=
  f.mono (fun k hk => .inr ⟨p, hp, hk⟩)
/-- One byte written. -/
theorem MD.setB {w : World} {base bb mb cnt : Nat} {D : DataW Unit} {L : List Pg} {B : Int → Nat × Nat} (h : MD w base bb mb cnt D L B) (b : Nat) (x : Int) (hx : 0 ≤ x ∧ x < 256) (p : Pg) (hp : getP L (pnum b) = some p) :
    MD (w.setCell ⟨(B (pnum b)).2, b % 4096, none⟩ (.int .u8 x)) base bb mb cnt D (Hand.setB L b x) B ∧ Far (Mown mb L B) w (w.setCell ⟨(B (pnum b)).2, b % 4096, none⟩ (.int .u8 x)) := by
  obtain ⟨h1, h2⟩ := getP_mem hp
  have ho := h.okp p h1
  have f : Far (fun k => k = (B p.n).1 ∨ k = (B p.n).2) w (w.setCell ⟨(B p.n).2, b % 4096, none⟩ (.int .u8 x)) := (Far.refl _ w).setS (.inr rfl) _ _
  have hne : (B p.n).1 ≠ (B p.n).2 := blk_ne (h.pg p h1) (h.dt p h1) (by decide)
  have h3 : MD (w.setCell ⟨(B p.n).2, b % 4096, none⟩ (.int .u8 x)) base bb mb cnt D (repP L ⟨p.n, p.perm, p.data.set (b % 4096) x⟩) B :=
    h.rep p h1 ⟨p.n, p.perm, p.data.set (b % 4096) x⟩ rfl ⟨ho.2.1, by rw [List.length_set]; exact ho.2.2.1, fun y hy => by
      rcases mem_set hy with rfl | hy
      · exact hx
      · exact ho.2.2.2 y hy⟩ f ((Far.setS (S := fun k => k = (B p.n).2) (Far.refl _ w) rfl _ _).blk (h.pg p h1) hne) (blk_put (h.dt p h1) _ _ (bs_set _ _ _))
  unfold Hand.setB
  rw [hp]
  rw [← h2]
  exact ⟨h3, far_mono_own h1 f⟩
end Go.Proofs.Ytgcgnpinhlmmjaa.Hand
