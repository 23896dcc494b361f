/- FramesPlays, walked. -/
import Derived.Test.YtapcpfpggjdikaaF7
import Derived.Deep.RegionHeld3
import Derived.Deep.QuietTactic
import Derived.BigQuiet
import Derived.Deep.DeepCutAuto
namespace Go.Proofs.Ytapcpfpggjdikaa.Hand
set_option linter.unusedVariables false
set_option linter.unusedSimpArgs false
open Go.RowKit Go.Proofs.Ytapcpfpggjdikaa.R Go.Proofs.YtapcpfpggjdikaaW.PrintWords Go.Proofs.YtapcpfpggjdikaaW.PrintLast Go.Proofs.YtapcpfpggjdikaaW.PrintMore

theorem Below_low {n m : Nat} {a b : World} (h : Below n a b) (hm : m ≤ n) : Below m a b := ⟨h.os, h.tape, h.output, h.size, fun k hk => h.block k (by omega)⟩
/-- The document's frames in memory: at block hx, the two rows apart from each other and from the frames'. -/
structure XS (w : World) (base hx : Nat) (own wh : List Int) (now : Int) (B0 : Option Addr) (d0 : Nat) (B1 : Option Addr) (d1 : Nat) (o : Nat) (A1 : Option Addr) : Prop where
  xb : w.heap[hx]? = some (.cells #[.slice B0 own.length d0, .slice B1 wh.length d1, .int .i64 now] 42 (0, 0))
  x0 : RI w base (fun k => some k = (Value.slice B0 own.length d0).ownBlock) (.slice B0 own.length d0) own
  x1 : RI w base (fun k => some k = (Value.slice B1 wh.length d1).ownBlock) (.slice B1 wh.length d1) wh
  xd : ∀ k, some k = (Value.slice B0 own.length d0).ownBlock → some k ≠ (Value.slice B1 wh.length d1).ownBlock
  xf : ∀ k, (some k = (Value.slice B0 own.length d0).ownBlock ∨ some k = (Value.slice B1 wh.length d1).ownBlock) → k ≠ o ∧ ∀ ad, A1 = some ad → k ≠ ad.block
theorem XS.below {w w' : World} {base hx : Nat} {own wh : List Int} {now : Int} {B0 : Option Addr} {d0 : Nat} {B1 : Option Addr} {d1 o : Nat} {A1 : Option Addr} (h : XS w base hx own wh now B0 d0 B1 d1 o A1) (hb : Below w.heap.size w w') : XS w' base hx own wh now B0 d0 B1 d1 o A1 :=
  ⟨blk_below h.xb hb, Kd.R_below h.x0 hb, Kd.R_below h.x1 hb, h.xd, h.xf⟩
theorem XS.lt {w : World} {base hx : Nat} {own wh : List Int} {now : Int} {B0 : Option Addr} {d0 : Nat} {B1 : Option Addr} {d1 o : Nat} {A1 : Option Addr} (h : XS w base hx own wh now B0 d0 B1 d1 o A1) (k : Nat) (hk : some k = (Value.slice B0 own.length d0).ownBlock ∨ some k = (Value.slice B1 wh.length d1).ownBlock) : k < w.heap.size ∧ ∃ cells, w.heap[k]? = some (.cells cells 3 (0, 0)) := by
  rcases hk with hk | hk
  · exact ⟨Kd.R_lt h.x0 k hk.symm, Kd.R_typed h.x0 k hk.symm⟩
  · exact ⟨Kd.R_lt h.x1 k hk.symm, Kd.R_typed h.x1 k hk.symm⟩
theorem XS.kp {w w' : World} {base hx : Nat} {own wh : List Int} {now : Int} {B0 : Option Addr} {d0 : Nat} {B1 : Option Addr} {d1 o : Nat} {A1 A2 : Option Addr} (h : XS w base hx own wh now B0 d0 B1 d1 o A1)
    {g : Nat} {own' F : List Int} {t : Int} {c0 c1 : Nat} (hf : FS w base g own' F t o c0 A1 c1) (kp : Kp g o A1 w w') (ty : Only base w w') (hA : ∀ ad, A2 = some ad → (∃ a1, A1 = some a1 ∧ a1.block = ad.block) ∨ w.heap.size ≤ ad.block) : XS w' base hx own wh now B0 d0 B1 d1 o A2 := by
  have hk : ∀ k, (some k = (Value.slice B0 own.length d0).ownBlock ∨ some k = (Value.slice B1 wh.length d1).ownBlock) → w'.heap[k]? = w.heap[k]? := fun k hk => by
    obtain ⟨h1, cells, h2⟩ := h.lt k hk
    exact kp.2 k h1 (fun e => by
      rw [e, hf.blk] at h2
      injection h2 with h2
      injection h2 with _ h2
      cases h2) (h.xf k hk).1 (h.xf k hk).2
  exact ⟨ty.typ _ _ _ (by decide) (by decide) h.xb, Kd.R_step h.x0 (fun k h1 _ => hk k (.inl h1)), Kd.R_step h.x1 (fun k h1 _ => hk k (.inr h1)), h.xd, fun k h1 => ⟨(h.xf k h1).1, fun ad h2 e => by
    rcases hA ad h2 with ⟨a1, h3, h4⟩ | h3
    · exact (h.xf k h1).2 a1 h3 (by rw [h4]; exact e)
    · have := (h.lt k h1).1
      omega⟩⟩
theorem FS.kept {w w' : World} {base g : Nat} {own F : List Int} {t : Int} {o c0 : Nat} {A1 : Option Addr} {c1 : Nat} (h : FS w base g own F t o c0 A1 c1) {S : Nat → Prop} (hk : Kept w w' S) (hg : ¬ S g) (ho : ¬ S o) (hA : ∀ ad, A1 = some ad → ¬ S ad.block) : FS w' base g own F t o c0 A1 c1 := by
  refine ⟨blk_kept h.blk hk hg, Kd.R_kept h.r0 hk (fun k e => by rw [e]; exact ho), ?_, h.ge⟩
  have := Kd.R_kept (Kd.R_tight2 rfl h.r1) hk (fun k e => by
    cases A1 with
    | none => have := e.1; simp [Value.ownBlock] at this
    | some ad =>
      have e1 : k = ad.block := by have := e.1; simpa [Value.ownBlock] using this
      rw [e1]
      exact hA ad rfl)
  exact Kd.R_mono this (fun _ e => e.2)

theorem XS.new {w1 w3 : World} {base g : Nat} {own F : List Int} {t : Int} {o c0 : Nat} {A1 : Option Addr} {c1 : Nat} (h : FS w1 base g own F t o c0 A1 c1) {B0 : Option Addr} {d0 : Nat} {B1 : Option Addr} {d1 : Nat} {own2 wh : List Int}
    (hr0 : Kd.R (Kd.int .i64) 3 w3 w1.heap.size (fun k => some k ≠ (Value.slice B1 wh.length d1).ownBlock) (.slice B0 own2.length d0) own2) (hr1 : Kd.R (Kd.int .i64) 3 w3 w1.heap.size (fun k => some k ≠ (Value.slice B0 own2.length d0).ownBlock) (.slice B1 wh.length d1) wh) (now : Int) :
    XS (w3.alloc (.cells #[.slice B0 own2.length d0, .slice B1 wh.length d1, .int .i64 now] 42 (0, 0))) base w3.heap.size own2 wh now B0 d0 B1 d1 o A1 := by
  have hge := h.gt
  have l0 := Kd.R_base hr0
  have l1 := Kd.R_base hr1
  have ho := Kd.R_lt h.r0 o rfl
  have hA : ∀ ad, A1 = some ad → ad.block < w1.heap.size := fun ad e => by
    subst e
    exact Kd.R_lt h.r1 ad.block rfl
  have key : ∀ k, (some k = (Value.slice B0 own2.length d0).ownBlock ∨ some k = (Value.slice B1 wh.length d1).ownBlock) → w1.heap.size ≤ k := fun k hk => hk.elim (fun e => l0 k e.symm) (fun e => l1 k e.symm)
  refine ⟨blk_new w3 _, Kd.R_alloc (Kd.R_lower (Kd.R_tight rfl hr0) hge) _, Kd.R_alloc (Kd.R_lower (Kd.R_tight rfl hr1) hge) _, fun k e => hr0.1 k e.symm, fun k e => ⟨?_, fun ad e2 => ?_⟩⟩
  · have := key k e
    omega
  · have := key k e
    have := hA ad e2
    omega

theorem same_calls {w : World} {base g hx : Nat} {own F : List Int} {t : Int} {o c0 : Nat} {A1 : Option Addr} {c1 : Nat} (h : FS w base g own F t o c0 A1 c1) {wh : List Int} {now : Int} {B0 : Option Addr} {d0 : Nat} {B1 : Option Addr} {d1 : Nat} (x : XS w base hx own wh now B0 d0 B1 d1 o A1) (hO : own.length < 1000) (few : ∀ y ∈ own, 0 ≤ y ∧ y ≤ 3) :
    Calls Try.prog 16 #[.pointer (some ⟨g, 0, none⟩), .agg #[.slice B0 own.length d0, .slice B1 wh.length d1, .int .i64 now], .int .i64 t] w fun e w' => e = .returned (.bool true) ∧ Below w.heap.size w w' := by
  have r0 := Kd.R_reads' x.x0
  have r1 := Kd.R_reads' x.x1
  have ne : ∀ (B : Option Addr) (n d : Nat), (∀ k, some k = (Value.slice B n d).ownBlock → ∃ cells, w.heap[k]? = some (.cells cells 3 (0, 0))) → ∀ ad, B = some ad → 0 < n → ad.block ≠ g := by
    rintro B n d hB ad rfl _ e
    obtain ⟨cells, hc⟩ := hB ad.block rfl
    rw [e, h.blk] at hc
    injection hc with hc
    injection hc with _ hc
    cases hc
  exact (gunnylaw05_same.calls 5000 g own F t B0 d0 own B1 d1 wh now t true t w w h.is (Below.refl _ _) r0.2.2 r0.2.1 (ne B0 _ d0 (fun k hk => (x.lt k (.inl hk)).2)) r1.2.2 r1.2.1 (ne B1 _ d1 (fun k hk => (x.lt k (.inr hk)).2)) (same_some own F wh t now hO few)).mono fun e w' ⟨he, _, hb, _⟩ => ⟨he, hb⟩

/-- Their rows alone. -/
structure XR (w : World) (base : Nat) (own wh : List Int) (B0 : Option Addr) (d0 : Nat) (B1 : Option Addr) (d1 : Nat) (o : Nat) (A1 : Option Addr) : Prop where
  x0 : RI w base (fun k => some k = (Value.slice B0 own.length d0).ownBlock) (.slice B0 own.length d0) own
  x1 : RI w base (fun k => some k = (Value.slice B1 wh.length d1).ownBlock) (.slice B1 wh.length d1) wh
  xd : ∀ k, some k = (Value.slice B0 own.length d0).ownBlock → some k ≠ (Value.slice B1 wh.length d1).ownBlock
  xf : ∀ k, (some k = (Value.slice B0 own.length d0).ownBlock ∨ some k = (Value.slice B1 wh.length d1).ownBlock) → k ≠ o ∧ ∀ ad, A1 = some ad → k ≠ ad.block
theorem ref_after {w w' : World} {base g hx : Nat} {own wh : List Int} {now : Int} {B0 : Option Addr} {d0 : Nat} {B1 : Option Addr} {d1 o : Nat} {A1 : Option Addr} (x : XS w base hx own wh now B0 d0 B1 d1 o A1)
    {ownF F : List Int} {t : Int} {c0 c1 : Nat} (h : FS w base g ownF F t o c0 A1 c1) {v0 v1 : Value} {own' wh' : List Int}
    (r0 : Kd.R (Kd.int .i64) 3 w' base (fun k_ => (((some k_ = (Value.slice B0 own.length d0).ownBlock) ∨ (some k_ = (Value.slice B1 wh.length d1).ownBlock)) ∨ w.heap.size ≤ k_) ∧ some k_ ≠ (v1 : Value).ownBlock) v0 own')
    (r1 : Kd.R (Kd.int .i64) 3 w' base (fun k_ => (((some k_ = (Value.slice B0 own.length d0).ownBlock) ∨ (some k_ = (Value.slice B1 wh.length d1).ownBlock)) ∨ w.heap.size ≤ k_) ∧ some k_ ≠ (v0 : Value).ownBlock) v1 wh')
    (hk : Kept w w' (fun k_ => (some k_ = (Value.slice B0 own.length d0).ownBlock) ∨ (some k_ = (Value.slice B1 wh.length d1).ownBlock))) :
    ∃ B0' d0' B1' d1', v0 = .slice B0' own'.length d0' ∧ v1 = .slice B1' wh'.length d1' ∧ XR w' base own' wh' B0' d0' B1' d1' o A1 ∧ FS w' base g ownF F t o c0 A1 c1 ∧ ∀ (k : Nat) (cs : Array Value) (T : TypeId), T ≠ 3 → w.heap[k]? = some (.cells cs T (0, 0)) → w'.heap[k]? = some (.cells cs T (0, 0)) := by
  obtain ⟨B0', d0', rfl⟩ := Kd.R_slice r0
  obtain ⟨B1', d1', rfl⟩ := Kd.R_slice r1
  have hlt : ∀ k, (some k = (Value.slice B0 own.length d0).ownBlock ∨ some k = (Value.slice B1 wh.length d1).ownBlock) → ∀ cs T, T ≠ 3 → w.heap[k]? ≠ some (.cells cs T (0, 0)) := fun k hk cs T hT e => by
    obtain ⟨_, cells, hc⟩ := x.lt k hk
    rw [e] at hc
    injection hc with hc
    injection hc with _ hc
    exact hT hc
  have ho := Kd.R_lt h.r0 o rfl
  have hA : ∀ ad, A1 = some ad → ad.block < w.heap.size := fun ad e => by
    subst e
    exact Kd.R_lt h.r1 ad.block rfl
  have ok : ∀ k, (((some k = (Value.slice B0 own.length d0).ownBlock) ∨ (some k = (Value.slice B1 wh.length d1).ownBlock)) ∨ w.heap.size ≤ k) → k ≠ o ∧ ∀ ad, A1 = some ad → k ≠ ad.block := fun k hk => by
    rcases hk with hk | hk
    · exact x.xf k hk
    · exact ⟨by omega, fun ad e => by have := hA ad e; omega⟩
  refine ⟨B0', d0', B1', d1', rfl, rfl, ⟨Kd.R_tight rfl r0, Kd.R_tight rfl r1, fun k e => (r0.1 k e.symm).2, fun k e => ?_⟩, ?_, fun k cs T hT e => blk_kept e hk (fun hs => hlt k hs cs T hT e)⟩
  · rcases e with e | e
    · exact ok k (r0.1 k e.symm).1
    · exact ok k (r1.1 k e.symm).1
  · exact h.kept hk (fun hs => hlt g hs _ 51 (by decide) h.blk) (fun hs => (x.xf o hs).1 rfl) (fun ad e hs => (x.xf ad.block hs).2 ad e rfl)
theorem XR.below {w w' : World} {base : Nat} {own wh : List Int} {B0 : Option Addr} {d0 : Nat} {B1 : Option Addr} {d1 o : Nat} {A1 : Option Addr} (h : XR w base own wh B0 d0 B1 d1 o A1) (hb : Below w.heap.size w w') : XR w' base own wh B0 d0 B1 d1 o A1 :=
  ⟨Kd.R_below h.x0 hb, Kd.R_below h.x1 hb, h.xd, h.xf⟩
theorem XR.far {w : World} {base : Nat} {own wh : List Int} {B0 : Option Addr} {d0 : Nat} {B1 : Option Addr} {d1 o : Nat} {A1 : Option Addr} (h : XR w base own wh B0 d0 B1 d1 o A1) {k : Nat} {cs : Array Value} {T : TypeId} (hb : w.heap[k]? = some (.cells cs T (0, 0))) (h3 : T ≠ 3) (i : Nat) (u : Value) : XR (w.setCell ⟨k, i, none⟩ u) base own wh B0 d0 B1 d1 o A1 := by
  have ht : ∀ q, q ∈ (3 : TypeId) :: (Kd.int .i64).E → q ≠ T := by
    intro q hq e
    rcases List.mem_cons.1 hq with h | h
    · exact h3 (e.symm.trans h)
    · have h' : q ∈ ([] : List TypeId) := h
      cases h'
  exact ⟨Kd.R_mono (Kd.R_far (p := ⟨k, i, none⟩) (Kd.R_types h.x0 hb ht) (fun _ hk => hk.2) u) (fun _ hk => hk.1), Kd.R_mono (Kd.R_far (p := ⟨k, i, none⟩) (Kd.R_types h.x1 hb ht) (fun _ hk => hk.2) u) (fun _ hk => hk.1), h.xd, h.xf⟩
theorem XR.xs {w : World} {base : Nat} {own wh : List Int} {B0 : Option Addr} {d0 : Nat} {B1 : Option Addr} {d1 o : Nat} {A1 : Option Addr} (h : XR w base own wh B0 d0 B1 d1 o A1) {hx : Nat} {now : Int} (xb : w.heap[hx]? = some (.cells #[.slice B0 own.length d0, .slice B1 wh.length d1, .int .i64 now] 42 (0, 0))) : XS w base hx own wh now B0 d0 B1 d1 o A1 := ⟨xb, h.x0, h.x1, h.xd, h.xf⟩

theorem rgive_calls {wb w : World} {g hx : Nat} {own wh : List Int} {now : Int} {B0 : Option Addr} {d0 : Nat} {B1 : Option Addr} {d1 o : Nat} {A1 : Option Addr} (x : XS w wb.heap.size hx own wh now B0 d0 B1 d1 o A1) (hB : Below wb.heap.size wb w)
    {ownF F : List Int} {t : Int} {c0 c1 : Nat} (h : FS w wb.heap.size g ownF F t o c0 A1 c1) (a : Int) {own' wh' : List Int} {now' : Int} {b : Bool} (hr : gunnyref05_Give.f own wh now a = some (own', wh', now', b)) :
    Calls Try.prog 17 #[.agg #[.slice B0 own.length d0, .slice B1 wh.length d1, .int .i64 now], .int .i64 a] w fun e w' => ∃ B0' d0' B1' d1', e = .returned (.tuple #[.agg #[.slice B0' own'.length d0', .slice B1' wh'.length d1', .int .i64 now'], .bool b]) ∧ XR w' wb.heap.size own' wh' B0' d0' B1' d1' o A1 ∧ FS w' wb.heap.size g ownF F t o c0 A1 c1 ∧ (∀ (k : Nat) (cs : Array Value) (T : TypeId), T ≠ 3 → w.heap[k]? = some (.cells cs T (0, 0)) → w'.heap[k]? = some (.cells cs T (0, 0))) ∧ Below wb.heap.size wb w' := by
  refine (gunnyref05_Give.calls _ _ own _ _ wh now a own' wh' now' b wb w hB x.x0 (fun k h1 h2 => x.xd k h1 h2) x.x1 (fun k h1 h2 => x.xd k h2 h1) hr).mono ?_
  rintro e w' ⟨v0, v1, rfl, r0, r1, hb, hk⟩
  obtain ⟨B0', d0', B1', d1', rfl, rfl, h1, h2, h3⟩ := ref_after x h r0 r1 hk
  exact ⟨B0', d0', B1', d1', rfl, h1, h2, h3, hb⟩
theorem rtake_calls {wb w : World} {g hx : Nat} {own wh : List Int} {now : Int} {B0 : Option Addr} {d0 : Nat} {B1 : Option Addr} {d1 o : Nat} {A1 : Option Addr} (x : XS w wb.heap.size hx own wh now B0 d0 B1 d1 o A1) (hB : Below wb.heap.size wb w)
    {ownF F : List Int} {t : Int} {c0 c1 : Nat} (h : FS w wb.heap.size g ownF F t o c0 A1 c1) (a : Int) {own' wh' : List Int} {now' : Int} {v : Int} {b : Bool} (hr : gunnyref05_Take.f 1001 own wh now a = some (own', wh', now', v, b)) :
    Calls Try.prog 18 #[.agg #[.slice B0 own.length d0, .slice B1 wh.length d1, .int .i64 now], .int .i64 a] w fun e w' => ∃ B0' d0' B1' d1', e = .returned (.tuple #[.agg #[.slice B0' own'.length d0', .slice B1' wh'.length d1', .int .i64 now'], .int .i64 v, .bool b]) ∧ XR w' wb.heap.size own' wh' B0' d0' B1' d1' o A1 ∧ FS w' wb.heap.size g ownF F t o c0 A1 c1 ∧ (∀ (k : Nat) (cs : Array Value) (T : TypeId), T ≠ 3 → w.heap[k]? = some (.cells cs T (0, 0)) → w'.heap[k]? = some (.cells cs T (0, 0))) ∧ Below wb.heap.size wb w' := by
  refine (gunnyref05_Take.calls 1001 _ _ own _ _ wh now a own' wh' now' v b wb w hB x.x0 (fun k h1 h2 => x.xd k h1 h2) x.x1 (fun k h1 h2 => x.xd k h2 h1) hr).mono ?_
  rintro e w' ⟨v0, v1, rfl, r0, r1, hb, hk⟩
  obtain ⟨B0', d0', B1', d1', rfl, rfl, h1, h2, h3⟩ := ref_after x h r0 r1 hk
  exact ⟨B0', d0', B1', d1', rfl, h1, h2, h3, hb⟩

/-- The world with the document's frames stored anew. -/
def st3 (w : World) (hx : Nat) (u0 u1 u2 : Value) : World := ((w.setCell ⟨hx, 0, none⟩ u0).setCell ⟨hx, 1, none⟩ u1).setCell ⟨hx, 2, none⟩ u2
theorem store3 {w wb : World} {hx : Nat} {a b c : Value} (hb : w.heap[hx]? = some (.cells #[a, b, c] 42 (0, 0))) (u0 u1 u2 : Value) {own wh : List Int} {B0 : Option Addr} {d0 : Nat} {B1 : Option Addr} {d1 o : Nat} {A1 : Option Addr} (x : XR w wb.heap.size own wh B0 d0 B1 d1 o A1)
    {g gd : Nat} {ownF F : List Int} {t : Int} {c0 c1 : Nat} (h : FS w wb.heap.size g ownF F t o c0 A1 c1) {cd : Array Value} (hd : w.heap[gd]? = some (.cells cd 30 (0, 0))) (hB : Below wb.heap.size wb w) (hge : wb.heap.size ≤ hx) :
    (st3 w hx u0 u1 u2).heap[hx]? = some (.cells #[u0, u1, u2] 42 (0, 0)) ∧ XR (st3 w hx u0 u1 u2) wb.heap.size own wh B0 d0 B1 d1 o A1 ∧ FS (st3 w hx u0 u1 u2) wb.heap.size g ownF F t o c0 A1 c1 ∧ (st3 w hx u0 u1 u2).heap[gd]? = some (.cells cd 30 (0, 0)) ∧ Below wb.heap.size wb (st3 w hx u0 u1 u2) := by
  have b1 := blk_put (cs' := #[u0, b, c]) hb 0 u0 (by simp)
  have b2 := blk_put (cs' := #[u0, u1, c]) b1 1 u1 (by simp)
  have b3 := blk_put (cs' := #[u0, u1, u2]) b2 2 u2 (by simp)
  have hne : gd ≠ hx := blk_ne hd hb (by decide)
  unfold st3
  exact ⟨b3, ((x.far hb (by decide) 0 u0).far b1 (by decide) 1 u1).far b2 (by decide) 2 u2, ((h.far hb (by decide) (by decide) 0 u0).far b1 (by decide) (by decide) 1 u1).far b2 (by decide) (by decide) 2 u2,
    blk_far (blk_far (blk_far hd (p := ⟨hx, 0, none⟩) hne u0) (p := ⟨hx, 1, none⟩) hne u1) (p := ⟨hx, 2, none⟩) hne u2, below_set (below_set (below_set hB hge) hge) hge⟩

set_option maxHeartbeats 8000000 in
set_option maxRecDepth 100000 in
theorem plays_law (many : Int) (A : Option Addr) (c : Nat) (l : List (Int × Int)) (w : World) (hC : Kd.C kD w A l.length l) (hc : l.length ≤ c) :
    Calls Try.prog 5 #[.int .i64 many, .slice A l.length c] w fun e w' => e = .returned (.bool true) ∧ Below w.heap.size w w' := by
  replace hC := Aside0.mk hC
  replace hc := Aside0.mk hc
  by_cases hm : many < 8 ∨ 96 < many
  · have m1 : (decide (many < 8) = true) ∨ (decide (many < 8) = false ∧ decide (many > 96) = true ∧ decide (96 < many) = true) := by
      by_cases h8 : many < 8
      · exact .inl (decide_eq_true h8)
      · exact .inr ⟨decide_eq_false h8, decide_eq_true (by omega), decide_eq_true (by omega)⟩
    replace hm := Aside0.mk hm
    rcases m1 with m1 | ⟨m1, m2, m3⟩
    all_goals
      go_enter Try.func5, Try.ntmps5
      go_upto_region 5 with (first | (go_at_call 9; refine (nil_take _).mono ?_; rintro e w2 ⟨rfl, rfl⟩) | (go_at_call 8; refine (nil_give _).mono ?_; rintro e w2 ⟨rfl, rfl⟩) | (go_at_call 11; refine (nil_owner _).mono ?_; rintro e w2 ⟨rfl, rfl⟩) | (go_at_call 10; refine (nil_count _ _ _ _).mono ?_; rintro e w2 ⟨rfl, rfl⟩) | (go_at_call 12; refine (nil_of _).mono ?_; rintro e w2 ⟨rfl, rfl⟩) | (go_at_call 13; refine (nil_many _).mono ?_; rintro e w2 ⟨rfl, rfl⟩) | (go_at_call 14; refine (nil_turns _).mono ?_; rintro e w2 ⟨rfl, rfl⟩))
      have hbw := Aside0.mk (below_alloc (Below.refl w2.heap.size w2) (.cells #[.int .i64 0, .int .i64 1] 3 (0, 0)))
      generalize w2.alloc (.cells #[.int .i64 0, .int .i64 1] 3 (0, 0)) = wb at hbw ⊢
      go_wp2_with (first | (go_at_call 7; refine (new_no many hm.out _).mono ?_; rintro e w3 ⟨rfl, rfl⟩) | (go_at_call 6; refine (lives_calls _).mono ?_; rintro e w7 ⟨rfl, b7⟩; replace b7 := Aside0.mk b7))
      go_returns
      exact ⟨rfl, hbw.out.trans (Below_low b7.out hbw.out.size)⟩
  obtain ⟨n, rfl⟩ : ∃ n : Nat, many = (n : Int) := ⟨many.toNat, by omega⟩
  have hn8 : 8 ≤ n := by omega
  have hn96 : n ≤ 96 := by omega
  have m1 : decide ((n : Int) < 8) = false := decide_eq_false (by omega)
  have m2 : decide (n < 8) = false := decide_eq_false (by omega)
  have m3 : decide ((n : Int) > 96) = false := decide_eq_false (by omega)
  have m4 : decide (96 < (n : Int)) = false := decide_eq_false (by omega)
  have m5 : decide (96 < n) = false := decide_eq_false (by omega)
  replace hn8 := Aside0.mk hn8
  replace hn96 := Aside0.mk hn96
  clear hm
  by_cases h2 : l.length > 200
  · have d1 : decide ((l.length : Int) > 200) = true := decide_eq_true (by omega)
    have d2 : decide (200 < (l.length : Int)) = true := decide_eq_true (by omega)
    have d3 : decide (200 < l.length) = true := decide_eq_true (by omega)
    go_enter Try.func5, Try.ntmps5
    go_upto_region 5 with (first | (go_at_call 9; refine (nil_take _).mono ?_; rintro e w2 ⟨rfl, rfl⟩) | (go_at_call 8; refine (nil_give _).mono ?_; rintro e w2 ⟨rfl, rfl⟩) | (go_at_call 11; refine (nil_owner _).mono ?_; rintro e w2 ⟨rfl, rfl⟩) | (go_at_call 10; refine (nil_count _ _ _ _).mono ?_; rintro e w2 ⟨rfl, rfl⟩) | (go_at_call 12; refine (nil_of _).mono ?_; rintro e w2 ⟨rfl, rfl⟩) | (go_at_call 13; refine (nil_many _).mono ?_; rintro e w2 ⟨rfl, rfl⟩) | (go_at_call 14; refine (nil_turns _).mono ?_; rintro e w2 ⟨rfl, rfl⟩))
    have hbw := Aside0.mk (below_alloc (Below.refl w2.heap.size w2) (.cells #[.int .i64 0, .int .i64 1] 3 (0, 0)))
    generalize w2.alloc (.cells #[.int .i64 0, .int .i64 1] 3 (0, 0)) = wb at hbw ⊢
    go_wp2_with (first | (go_at_call 7; refine (new_calls n hn8.out hn96.out _).mono ?_; rintro e w1 ⟨g, o, c0, A1, c1, rfl, hs, hb⟩; replace hs := Aside0.mk hs; replace hb := Aside0.mk hb) | (go_at_call 6; refine (lives_calls _).mono ?_; rintro e w7 ⟨rfl, b7⟩; replace b7 := Aside0.mk b7))
    go_returns
    exact ⟨rfl, hbw.out.trans (Below_low (hb.out.trans (Below_low b7.out hb.out.size)) hbw.out.size)⟩
  have d1 : decide ((l.length : Int) > 200) = false := decide_eq_false (by omega)
  have d2 : decide (200 < (l.length : Int)) = false := decide_eq_false (by omega)
  have d3 : decide (200 < l.length) = false := decide_eq_false (by omega)
  replace h2 := Aside0.mk h2
  go_enter Try.func5, Try.ntmps5
  go_upto_region 5 with (first | (go_at_call 9; refine (nil_take _).mono ?_; rintro e w2 ⟨rfl, rfl⟩) | (go_at_call 8; refine (nil_give _).mono ?_; rintro e w2 ⟨rfl, rfl⟩) | (go_at_call 11; refine (nil_owner _).mono ?_; rintro e w2 ⟨rfl, rfl⟩) | (go_at_call 10; refine (nil_count _ _ _ _).mono ?_; rintro e w2 ⟨rfl, rfl⟩) | (go_at_call 12; refine (nil_of _).mono ?_; rintro e w2 ⟨rfl, rfl⟩) | (go_at_call 13; refine (nil_many _).mono ?_; rintro e w2 ⟨rfl, rfl⟩) | (go_at_call 14; refine (nil_turns _).mono ?_; rintro e w2 ⟨rfl, rfl⟩))
  have hbw := Aside0.mk (below_alloc (Below.refl w2.heap.size w2) (.cells #[.int .i64 0, .int .i64 1] 3 (0, 0)))
  generalize w2.alloc (.cells #[.int .i64 0, .int .i64 1] 3 (0, 0)) = wb at hbw ⊢
  go_upto_region 10 with (first | (go_at_call 7; refine (new_calls n hn8.out hn96.out _).mono ?_; rintro e w1 ⟨g, o, c0, A1, c1, rfl, hs, hb⟩; replace hs := Aside0.mk hs; replace hb := Aside0.mk hb))
  have hrn := Aside0.mk (gunnyref05_New.calls 1001 (n : Int) _ _ _ w1 (rNew n (by have := hn96.out; omega)))
  go_upto_region 11 with (first | (go_at_call 15; refine hrn.out.mono ?_; rintro e w3 ⟨v0, v1, rfl, hr0, hr1, hb2⟩; obtain ⟨B0, d0, e0⟩ := Kd.R_slice hr0; subst e0; obtain ⟨B1, d1', e1⟩ := Kd.R_slice hr1; subst e1; replace hr0 := Aside0.mk hr0; replace hr1 := Aside0.mk hr1; replace hb2 := Aside0.mk hb2))
  have hs2 := hs.out.below hb2.out
  have hx := XS.new hs.out hr0.out hr1.out (n : Int)
  have hs3 := hs2.alloc (.cells #[.slice B0 (List.replicate n (0 : Int)).length d0, .slice B1 (whens n n).length d1', .int .i64 (n : Int)] 42 (0, 0))
  have hb3 := below_alloc (hb.out.trans (Only.of_below hb2.out hs.out.gt).below) (.cells #[.slice B0 (List.replicate n (0 : Int)).length d0, .slice B1 (whens n n).length d1', .int .i64 (n : Int)] 42 (0, 0))
  have hw := WI.new n (by have := hn96.out; omega)
  have hgx0 : wb.heap.size ≤ w3.heap.size := Nat.le_trans hs.out.gt hb2.out.size
  have hsm := same_calls hs3 hx (by rw [List.length_replicate]; have := hn96.out; omega) hw.few
  rw [List.length_replicate, whens_length] at hx hs3 hb3 hsm
  rw [whens_length]
  clear hs hs2 hb hb2 hr0 hr1 hrn
  generalize w3.alloc (.cells #[.slice B0 n d0, .slice B1 n d1', .int .i64 (n : Int)] 42 (0, 0)) = w4 at hx hs3 hb3 hsm ⊢
  have hgx : wb.heap.size ≤ w3.heap.size := hgx0
  generalize w3.heap.size = hxb at hx hgx ⊢
  replace hgx := Aside0.mk hgx
  have cx0 : w4.cell? ⟨hxb, 0, none⟩ = some (.slice B0 n d0) := by have := (blk_cell hx.xb 0).trans rfl; rw [List.length_replicate] at this; exact this
  have cx1 : w4.cell? ⟨hxb, 1, none⟩ = some (.slice B1 n d1') := by have := (blk_cell hx.xb 1).trans rfl; rw [whens_length] at this; exact this
  have cx2 : w4.cell? ⟨hxb, 2, none⟩ = some (.int .i64 (n : Int)) := (blk_cell hx.xb 2).trans rfl
  replace hx := Aside0.mk hx
  replace hs3 := Aside0.mk hs3
  replace hb3 := Aside0.mk hb3
  replace hsm := Aside0.mk hsm
  replace hw := Aside0.mk hw
  go_wp2_with (first | (go_at_call 16; refine hsm.out.mono ?_; rintro e w5 ⟨rfl, hb5⟩; replace hb5 := Aside0.mk hb5))
  have hx5 := Aside0.mk (hx.out.below hb5.out)
  have hs5 := Aside0.mk (hs3.out.below hb5.out)
  have hb6 := Aside0.mk (hb3.out.trans (Only.of_below hb5.out hs3.out.gt).below)
  clear hx hs3 hb3 hb5 hsm cx0 cx1 cx2
  go_loopg [11, 12] l.length (fun kq v11 v12 w' => ∃ (i : Nat) (own F wh : List Int) (t now : Int) (A1 : Option Addr) (c1 : Nat) (B0 : Option Addr) (d0 : Nat) (B1 : Option Addr) (d1 : Nat), v11 = .int .i64 t ∧ v12 = .int .i64 (i : Int) ∧ Aside0 (i + kq = l.length) ∧ Aside0 (FS w' wb.heap.size g own F t o c0 A1 c1) ∧ Aside0 (WI own F wh now n (n + i)) ∧ Aside0 (now ≤ n + i) ∧ Aside0 (XS w' wb.heap.size hxb own wh now B0 d0 B1 d1 o A1) ∧ Aside0 (Below wb.heap.size wb w'))
  case atStart => exact ⟨0, _, _, _, _, _, _, _, _, _, _, _, rfl, rfl, ⟨by omega⟩, hs5, hw, ⟨by omega⟩, hx5, hb6⟩
  case round =>
    obtain ⟨i, own, F, wh, t, now, A3, c3, B3, d3', B4, d4', rfl, rfl, HK, HS, HI, HN, HX, HB⟩ := hrel
    clear hx5 hs5 hb6 hw
    cases gk with
    | zero =>
      obtain rfl : i = l.length := by have := HK.out; omega
      have e1 : decide (((l.length : Nat) : Int) < ((l.length : Nat) : Int)) = false := decide_eq_false (by omega)
      go_wp2_with (first | (go_at_call 6; refine (lives_calls _).mono ?_; rintro e w7 ⟨rfl, b7⟩; replace b7 := Aside0.mk b7))
      go_returns
      exact ⟨rfl, hbw.out.trans (Below_low (HB.out.trans (Only.of_below b7.out HS.out.gt).below) hbw.out.size)⟩
    | succ k =>
      have hi : i < l.length := by have := HK.out; omega
      have e1 : decide ((i : Int) < (l.length : Int)) = true := decide_eq_true (by omega)
      have e2 : decide (i < l.length) = true := decide_eq_true hi
      have e3 : decide (0 ≤ (i : Int)) = true := decide_eq_true (by omega)
      obtain ⟨ad, rfl, hcell⟩ := deed_at hC.out i hi
      obtain ⟨k0, k1⟩ := hcell wr (hbw.out.trans (Below_low HB.out hbw.out.size))
      have ws := Aside0.mk (w64s i (by have := h2.out; omega))
      have hi6 : n + i + 1 < 1000000 := by have := h2.out; have := hn96.out; omega
      replace hi6 := Aside0.mk hi6
      go_upto_region 18 with (fail)
      have HD := blk_new wr (.cells #[.int .i64 l[i].1, .int .i64 l[i].2] 30 (0, 0))
      have hba := below_alloc (Below.refl wr.heap.size wr) (.cells #[.int .i64 l[i].1, .int .i64 l[i].2] 30 (0, 0))
      have HS' := HS.out.below hba
      have HX' := HX.out.below hba
      have HB' := below_alloc HB.out (.cells #[.int .i64 l[i].1, .int .i64 l[i].2] 30 (0, 0))
      clear HS HX HB k0 k1 hba
      obtain ⟨N, hN⟩ : ∃ N, N = l[i].1 := ⟨_, rfl⟩
      obtain ⟨O, hO⟩ : ∃ O, O = l[i].2 := ⟨_, rfl⟩
      rw [← hN, ← hO] at HD HS' HX' HB' ⊢
      clear hN hO hcell
      generalize wr.alloc (.cells #[.int .i64 N, .int .i64 O] 30 (0, 0)) = wd at HD HS' HX' HB' ⊢
      generalize wr.heap.size = gd at HD ⊢
      have cd0 : wd.cell? ⟨gd, 0, none⟩ = some (.int .i64 N) := (blk_cell HD 0).trans rfl
      have cd1 : wd.cell? ⟨gd, 1, none⟩ = some (.int .i64 O) := (blk_cell HD 1).trans rfl
      have cx0 : wd.cell? ⟨hxb, 0, none⟩ = some (.slice B3 own.length d3') := (blk_cell HX'.xb 0).trans rfl
      have cx1 : wd.cell? ⟨hxb, 1, none⟩ = some (.slice B4 wh.length d4') := (blk_cell HX'.xb 1).trans rfl
      have cx2 : wd.cell? ⟨hxb, 2, none⟩ = some (.int .i64 now) := (blk_cell HX'.xb 2).trans rfl
      replace HD := Aside0.mk HD
      replace HS' := Aside0.mk HS'
      replace HX' := Aside0.mk HX'
      replace HB' := Aside0.mk HB'
      go_upto_if 109 with (fail)
      go_cut [14, 15, 16, 17] (fun v14 v15 v16 v17 wx => ∃ (own' F' wh' : List Int) (t' now' : Int) (A4 : Option Addr) (c4 : Nat) (B5 : Option Addr) (d5 : Nat) (B6 : Option Addr) (d6 : Nat) (b : Bool), v14 = .bool b ∧ Aside0 (t' = if b then wrap64 (t + 1) else t) ∧ Aside0 (FS wx wb.heap.size g own' F' t' o c0 A4 c4) ∧ Aside0 (WI own' F' wh' now' n (n + i + 1)) ∧ Aside0 (now' ≤ n + i + 1) ∧ Aside0 (XS wx wb.heap.size hxb own' wh' now' B5 d5 B6 d6 o A4) ∧ Aside0 (Below wb.heap.size wb wx))
      case first =>
        by_cases hn : N ≥ 0
        · have e4 : decide (0 ≤ N) = true := decide_eq_true hn
          obtain ⟨x, rfl⟩ : ∃ x : Nat, N = (x : Int) := ⟨N.toNat, by omega⟩
          have hnow : now + 1 < 1000000 := by have := HN.out; have := hi6.out; omega
          have hr := rGive HI.out hnow (x : Int)
          by_cases hz : ownerOf own (x : Int) ≠ 0
          · rw [if_pos hz, Int.toNat_natCast] at hr
            have hxl := ownerOf_ne hz
            have hlen := HI.out.ok.len
            have hI' := Aside0.mk (HI.out.give hi6.out hnow x (by omega) hz)
            have C17 := Aside0.mk (rgive_calls HX'.out HB'.out HS'.out (x : Int) hr)
            clear hr hlen hnow
            replace hz := Aside0.mk hz
            replace hxl := Aside0.mk hxl
            go_upto_region 21 with (go_at_call 17; refine C17.out.mono ?_; rintro e w3 ⟨B5, d5, B6, d6, rfl, hxr, hs3, hty, hb3⟩; have hd3 := Aside0.mk (hty _ _ _ (by decide) HD.out); have hx3 := Aside0.mk (hty _ _ _ (by decide) HX'.out.xb); replace hxr := Aside0.mk hxr; replace hs3 := Aside0.mk hs3; replace hb3 := Aside0.mk hb3; clear hty; have z0 : w3.cell? ⟨hxb, 0, none⟩ = some (.slice B3 own.length d3') := (blk_cell hx3.out 0).trans rfl; have z1 : w3.cell? ⟨hxb, 1, none⟩ = some (.slice B4 wh.length d4') := (blk_cell hx3.out 1).trans rfl; have z2 : w3.cell? ⟨hxb, 2, none⟩ = some (.int .i64 now) := (blk_cell hx3.out 2).trans rfl; have f0 := blk_frozen hx3.out 0; have f1 := blk_frozen hx3.out 1; have f2 := blk_frozen hx3.out 2)
            obtain ⟨y1, y2, y3, y4, y5⟩ := store3 hx3.out (.slice B5 own.length d5) (.slice B6 wh.length d6) (.int .i64 (now + 1)) hxr.out hs3.out hd3.out hb3.out hgx.out
            unfold st3 at y1 y2 y3 y4 y5
            clear z0 z1 z2 f0 f1 f2 hx3 hxr hs3 hd3 hb3 cd0 cd1 cx0 cx1 cx2
            generalize ((w3.setCell ⟨hxb, 0, none⟩ (.slice B5 own.length d5)).setCell ⟨hxb, 1, none⟩ (.slice B6 wh.length d6)).setCell ⟨hxb, 2, none⟩ (.int .i64 (now + 1)) = w6 at y1 y2 y3 y4 y5 ⊢
            have cd0 : w6.cell? ⟨gd, 0, none⟩ = some (.int .i64 (x : Int)) := (blk_cell y4 0).trans rfl
            have hx6 := XR.xs y2 (hx := hxb) (now := now + 1) (by rw [List.length_set, List.length_set]; exact y1)
            have C8 := Aside0.mk (give_yes2 wb.heap.size g own F x t o c0 A3 c3 w6 y3 (by have := hxl.out; omega) (by have := hz.out; unfold ownerOf at this; rw [if_pos hxl.out, Int.toNat_natCast] at this; exact this) (by have := HI.out.ok.most; have := HI.out.ok.few; omega) (by have := HI.out.ok.len; have := HI.out.ok.lim; omega))
            replace y3 := Aside0.mk y3
            replace y5 := Aside0.mk y5
            replace hx6 := Aside0.mk hx6
            clear y1 y2 y4
            go_wp2_with (first | (go_at_call 8; refine C8.out.mono ?_; rintro e w7 ⟨A4, c4, rfl, hs7, hO7, hK7, hA7⟩; have hx7 := Aside0.mk (hx6.out.kp y3.out hK7 hO7 hA7); have hb7 := Aside0.mk (y5.out.trans hO7.below); replace hs7 := Aside0.mk hs7; clear hO7 hK7 hA7))
            go_meet
            case rel => exact ⟨_, _, _, _, _, _, _, _, _, _, _, true, rfl, ⟨rfl⟩, hs7, hI', ⟨by have := HN.out; omega⟩, hx7, hb7⟩
          · rw [if_neg hz] at hr
            have hz0 : ownerOf own (x : Int) = 0 := by simpa using hz
            have C17 := Aside0.mk (rgive_calls HX'.out HB'.out HS'.out (x : Int) hr)
            clear hr hnow hz
            replace hz0 := Aside0.mk hz0
            go_upto_region 21 with (go_at_call 17; refine C17.out.mono ?_; rintro e w3 ⟨B5, d5, B6, d6, rfl, hxr, hs3, hty, hb3⟩; have hd3 := Aside0.mk (hty _ _ _ (by decide) HD.out); have hx3 := Aside0.mk (hty _ _ _ (by decide) HX'.out.xb); replace hxr := Aside0.mk hxr; replace hs3 := Aside0.mk hs3; replace hb3 := Aside0.mk hb3; clear hty; have z0 : w3.cell? ⟨hxb, 0, none⟩ = some (.slice B3 own.length d3') := (blk_cell hx3.out 0).trans rfl; have z1 : w3.cell? ⟨hxb, 1, none⟩ = some (.slice B4 wh.length d4') := (blk_cell hx3.out 1).trans rfl; have z2 : w3.cell? ⟨hxb, 2, none⟩ = some (.int .i64 now) := (blk_cell hx3.out 2).trans rfl; have f0 := blk_frozen hx3.out 0; have f1 := blk_frozen hx3.out 1; have f2 := blk_frozen hx3.out 2)
            obtain ⟨y1, y2, y3, y4, y5⟩ := store3 hx3.out (.slice B5 own.length d5) (.slice B6 wh.length d6) (.int .i64 (now)) hxr.out hs3.out hd3.out hb3.out hgx.out
            unfold st3 at y1 y2 y3 y4 y5
            clear z0 z1 z2 f0 f1 f2 hx3 hxr hs3 hd3 hb3 cd0 cd1 cx0 cx1 cx2
            generalize ((w3.setCell ⟨hxb, 0, none⟩ (.slice B5 own.length d5)).setCell ⟨hxb, 1, none⟩ (.slice B6 wh.length d6)).setCell ⟨hxb, 2, none⟩ (.int .i64 (now)) = w6 at y1 y2 y3 y4 y5 ⊢
            have cd0 : w6.cell? ⟨gd, 0, none⟩ = some (.int .i64 (x : Int)) := (blk_cell y4 0).trans rfl
            have hx6 := XR.xs y2 (hx := hxb) (now := now) y1
            have C8 := Aside0.mk (give_no wb.heap.size g own F t o c0 A3 c3 (x : Int) w6 y3 hz0.out)
            replace y3 := Aside0.mk y3
            replace y5 := Aside0.mk y5
            replace hx6 := Aside0.mk hx6
            clear y1 y2 y4
            go_wp2_with (first | (go_at_call 8; refine C8.out.mono ?_; rintro e w7 ⟨rfl, hO7⟩; have hx7 := Aside0.mk (hx6.out.below hO7); have hs7 := Aside0.mk (y3.out.below hO7); have hb7 := Aside0.mk (y5.out.trans (Only.of_below hO7 y3.out.gt).below); clear hO7))
            go_meet
            case rel => exact ⟨_, _, _, _, _, _, _, _, _, _, _, false, rfl, ⟨rfl⟩, hs7, ⟨HI.out.more hi6.out⟩, ⟨by have := HN.out; omega⟩, hx7, hb7⟩
        · have e4 : decide (0 ≤ N) = false := decide_eq_false hn
          have hr := rTake HI.out O (by have := hn96.out; omega)
          by_cases hF : F ≠ [] ∧ 1 ≤ O ∧ O ≤ 3
          · rw [if_pos hF] at hr
            obtain ⟨G, y, rfl⟩ : ∃ G y, F = G ++ [y] := ⟨F.dropLast, F.getLast hF.1, (List.dropLast_concat_getLast hF.1).symm⟩
            have hy := HI.out.ok.are y (by simp)
            obtain ⟨x, rfl⟩ : ∃ x : Nat, y = (x : Int) := ⟨y.toNat, by omega⟩
            have el : (G ++ [(x : Int)]).getLastD 0 = (x : Int) := by simp
            rw [el, Int.toNat_natCast] at hr
            have hlen := HI.out.ok.len
            have hlim := HI.out.ok.lim
            have hI' := Aside0.mk ((HI.out.take x O hF.2.1 hF.2.2).more hi6.out)
            have hGl : G.length < 1000000 := by have h1 := HI.out.ok.most; have h3 := HI.out.ok.few; simp at h1; omega
            have C18 := Aside0.mk (rtake_calls HX'.out HB'.out HS'.out O hr)
            have hxl : x < own.length := by omega
            have C9 := Aside0.mk (fun W (hW : FS W wb.heap.size g own (G ++ [(x : Int)]) t o c0 A3 c3) => take_yes2 wb.heap.size g own G x t o c0 A3 c3 O W hW hxl hGl (by omega) hF.2.1 hF.2.2)
            clear hr hlen hlim hGl hxl hy el hF
            go_upto_region 25 with (go_at_call 18; refine C18.out.mono ?_; rintro e w3 ⟨B5, d5, B6, d6, rfl, hxr, hs3, hty, hb3⟩; have hd3 := Aside0.mk (hty _ _ _ (by decide) HD.out); have hx3 := Aside0.mk (hty _ _ _ (by decide) HX'.out.xb); replace hxr := Aside0.mk hxr; replace hs3 := Aside0.mk hs3; replace hb3 := Aside0.mk hb3; clear hty; have z0 : w3.cell? ⟨hxb, 0, none⟩ = some (.slice B3 own.length d3') := (blk_cell hx3.out 0).trans rfl; have z1 : w3.cell? ⟨hxb, 1, none⟩ = some (.slice B4 wh.length d4') := (blk_cell hx3.out 1).trans rfl; have z2 : w3.cell? ⟨hxb, 2, none⟩ = some (.int .i64 now) := (blk_cell hx3.out 2).trans rfl; have f0 := blk_frozen hx3.out 0; have f1 := blk_frozen hx3.out 1; have f2 := blk_frozen hx3.out 2)
            obtain ⟨y1, y2, y3, y4, y5⟩ := store3 hx3.out (.slice B5 own.length d5) (.slice B6 wh.length d6) (.int .i64 (now)) hxr.out hs3.out hd3.out hb3.out hgx.out
            unfold st3 at y1 y2 y3 y4 y5
            clear z0 z1 z2 f0 f1 f2 hx3 hxr hs3 hd3 hb3 cd0 cd1 cx0 cx1 cx2
            generalize ((w3.setCell ⟨hxb, 0, none⟩ (.slice B5 own.length d5)).setCell ⟨hxb, 1, none⟩ (.slice B6 wh.length d6)).setCell ⟨hxb, 2, none⟩ (.int .i64 (now)) = w6 at y1 y2 y3 y4 y5 ⊢
            have cd1 : w6.cell? ⟨gd, 1, none⟩ = some (.int .i64 O) := (blk_cell y4 1).trans rfl
            have hx6 := XR.xs y2 (hx := hxb) (now := now) (by rw [List.length_set]; exact y1)
            replace y3 := Aside0.mk y3
            replace y5 := Aside0.mk y5
            replace hx6 := Aside0.mk hx6
            clear y1 y2 y4
            go_wp2_with (first | (go_at_call 9; refine (C9.out _ y3.out).mono ?_; rintro e w7 ⟨rfl, hs7, hO7, hK7⟩; have hx7 := Aside0.mk (hx6.out.kp y3.out hK7 hO7 (fun ad e => .inl ⟨ad, e, rfl⟩) : XS w7 wb.heap.size hxb (own.set x O) wh now B5 d5 B6 d6 o A3); have hb7 := Aside0.mk (y5.out.trans hO7.below); replace hs7 := Aside0.mk hs7; clear hO7 hK7))
            go_meet
            case rel => exact ⟨_, _, _, _, _, _, _, _, _, _, _, true, rfl, ⟨rfl⟩, hs7, hI', ⟨by have := HN.out; omega⟩, hx7, hb7⟩
          · rw [if_neg hF] at hr
            have hno : F = [] ∨ O ≤ 0 ∨ O > 3 := by
              by_cases h1 : F = []
              · exact .inl h1
              · by_cases h3 : O ≤ 0
                · exact .inr (.inl h3)
                · exact .inr (.inr (by by_cases h4 : O ≤ 3; exact absurd ⟨h1, by omega, h4⟩ hF; omega))
            have C18 := Aside0.mk (rtake_calls HX'.out HB'.out HS'.out O hr)
            replace hno := Aside0.mk hno
            clear hr hF
            go_upto_region 25 with (go_at_call 18; refine C18.out.mono ?_; rintro e w3 ⟨B5, d5, B6, d6, rfl, hxr, hs3, hty, hb3⟩; have hd3 := Aside0.mk (hty _ _ _ (by decide) HD.out); have hx3 := Aside0.mk (hty _ _ _ (by decide) HX'.out.xb); replace hxr := Aside0.mk hxr; replace hs3 := Aside0.mk hs3; replace hb3 := Aside0.mk hb3; clear hty; have z0 : w3.cell? ⟨hxb, 0, none⟩ = some (.slice B3 own.length d3') := (blk_cell hx3.out 0).trans rfl; have z1 : w3.cell? ⟨hxb, 1, none⟩ = some (.slice B4 wh.length d4') := (blk_cell hx3.out 1).trans rfl; have z2 : w3.cell? ⟨hxb, 2, none⟩ = some (.int .i64 now) := (blk_cell hx3.out 2).trans rfl; have f0 := blk_frozen hx3.out 0; have f1 := blk_frozen hx3.out 1; have f2 := blk_frozen hx3.out 2)
            obtain ⟨y1, y2, y3, y4, y5⟩ := store3 hx3.out (.slice B5 own.length d5) (.slice B6 wh.length d6) (.int .i64 (now)) hxr.out hs3.out hd3.out hb3.out hgx.out
            unfold st3 at y1 y2 y3 y4 y5
            clear z0 z1 z2 f0 f1 f2 hx3 hxr hs3 hd3 hb3 cd0 cd1 cx0 cx1 cx2
            generalize ((w3.setCell ⟨hxb, 0, none⟩ (.slice B5 own.length d5)).setCell ⟨hxb, 1, none⟩ (.slice B6 wh.length d6)).setCell ⟨hxb, 2, none⟩ (.int .i64 (now)) = w6 at y1 y2 y3 y4 y5 ⊢
            have cd1 : w6.cell? ⟨gd, 1, none⟩ = some (.int .i64 O) := (blk_cell y4 1).trans rfl
            have hx6 := XR.xs y2 (hx := hxb) (now := now) y1
            have C9 := Aside0.mk (take_no wb.heap.size g own F t o c0 A3 c3 O w6 y3 hno.out)
            replace y3 := Aside0.mk y3
            replace y5 := Aside0.mk y5
            replace hx6 := Aside0.mk hx6
            clear y1 y2 y4
            go_wp2_with (first | (go_at_call 9; refine C9.out.mono ?_; rintro e w7 ⟨rfl, hO7⟩; have hx7 := Aside0.mk (hx6.out.below hO7); have hs7 := Aside0.mk (y3.out.below hO7); have hb7 := Aside0.mk (y5.out.trans (Only.of_below hO7 y3.out.gt).below); clear hO7))
            go_meet
            case rel => exact ⟨_, _, _, _, _, _, _, _, _, _, _, false, rfl, ⟨rfl⟩, hs7, ⟨HI.out.more hi6.out⟩, ⟨by have := HN.out; omega⟩, hx7, hb7⟩
      case rest =>
        obtain ⟨own', F', wh', t', now', A4, c4, B5, d5, B6, d6, b, rfl, HT, HS2, HI2, HN2, HX2, HB2⟩ := hcut
        clear HS' HX' HB' HD HI HN cd0 cd1 cx0 cx1 cx2
        have hsm := same_calls HS2.out HX2.out (by rw [HI2.out.ok.len]; have := hn96.out; omega) HI2.out.few
        replace hsm := Aside0.mk hsm
        have cx0 : wc.cell? ⟨hxb, 0, none⟩ = some (.slice B5 own'.length d5) := (blk_cell HX2.out.xb 0).trans rfl
        have cx1 : wc.cell? ⟨hxb, 1, none⟩ = some (.slice B6 wh'.length d6) := (blk_cell HX2.out.xb 1).trans rfl
        have cx2 : wc.cell? ⟨hxb, 2, none⟩ = some (.int .i64 now') := (blk_cell HX2.out.xb 2).trans rfl
        cases b with
        | true =>
          have ht : wrap64 (t + 1) = t' := by rw [HT.out]; rfl
          go_upto_region 30 with (fail)
          rw [ht]
          go_wp2_with (first | (go_at_call 16; refine hsm.out.mono ?_; rintro e w5 ⟨rfl, hb5⟩; replace hb5 := Aside0.mk hb5))
          go_roundg k
          case measure => omega
          case rel => exact ⟨i + 1, _, _, _, _, _, _, _, _, _, _, _, rfl, by first | rw [ws.out] | rfl, ⟨by have := HK.out; omega⟩, ⟨HS2.out.below hb5.out⟩, HI2, ⟨by have := HN2.out; omega⟩, ⟨HX2.out.below hb5.out⟩, ⟨HB2.out.trans (Only.of_below hb5.out HS2.out.gt).below⟩⟩
        | false =>
          have ht : t' = t := by rw [HT.out]; rfl
          subst ht
          go_wp2_with (first | (go_at_call 16; refine hsm.out.mono ?_; rintro e w5 ⟨rfl, hb5⟩; replace hb5 := Aside0.mk hb5))
          go_roundg k
          case measure => omega
          case rel => exact ⟨i + 1, _, _, _, _, _, _, _, _, _, _, _, rfl, by first | rw [ws.out] | rfl, ⟨by have := HK.out; omega⟩, ⟨HS2.out.below hb5.out⟩, HI2, ⟨by have := HN2.out; omega⟩, ⟨HX2.out.below hb5.out⟩, ⟨HB2.out.trans (Only.of_below hb5.out HS2.out.gt).below⟩⟩

theorem plays_walk (W : World) (many : Int) (wm : (Lit.int .i64 many).wf = true) (A : Option Addr) (c : Nat) (l : List (Int × Int)) (hC : Kd.C kD W A l.length l) (hle : l.length ≤ c) (hm : l.length ≤ maxLen) (hR : ∀ x ∈ l, True) :
    Calls Try.prog 5 #[.int .i64 many, .slice A l.length c] W fun e w' => e = .returned (.bool true) ∧ Below W.heap.size W w' := plays_law many A c l W hC hle

end Go.Proofs.Ytapcpfpggjdikaa.Hand
