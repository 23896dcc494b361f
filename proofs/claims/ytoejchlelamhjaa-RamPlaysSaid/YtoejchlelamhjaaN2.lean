/- RamPlays: the document's frames in memory, beside the program's; gunnyref06.Take, walked. -/
import Derived.Test.YtoejchlelamhjaaN1
import Derived.Test.YtoejchlelamhjaaRx2
import Derived.Test.YtoejchlelamhjaaRx3
import Derived.Test.YtoejchlelamhjaaRx4
import Derived.Deep.QuietTactic
import Derived.BigQuiet
namespace Go.Proofs.Ytoejchlelamhjaa.Hand
set_option linter.unusedVariables false
set_option linter.unusedSimpArgs false
open Go.RowKit Go.Proofs.Ytoejchlelamhjaa.R Go.Proofs.Ytoejchlelamhjaa.Byt Go.Proofs.YtoejchlelamhjaaW.PrintWords Go.Proofs.YtoejchlelamhjaaW.PrintLast Go.Proofs.YtoejchlelamhjaaW.PrintMore

/-- The document's frames: owners, whens and what was written, apart from the program's blocks. -/
structure XF (w : World) (base : Nat) (Q : Nat → Prop) (own wh : List Int) (L : List S83) (u0 u1 u3 : Value) : Prop where
  r0 : Kd.R (Kd.int .i64) 3 w base (fun k => ¬ Q k ∧ some k ≠ u1.ownBlock) u0 own
  r1 : Kd.R (Kd.int .i64) 3 w base (fun k => ¬ Q k ∧ some k ≠ u0.ownBlock) u1 wh
  r3 : Kd.V k83 83 w base (fun k => ¬ Q k ∧ some k ≠ u0.ownBlock ∧ some k ≠ u1.ownBlock) u3 L
theorem XF.step {w w' : World} {base : Nat} {Q : Nat → Prop} {own wh : List Int} {L : List S83} {u0 u1 u3 : Value} (h : XF w base Q own wh L u0 u1 u3) (hm : ∀ k, ¬ Q k → k < w.heap.size → w'.heap[k]? = w.heap[k]?) : XF w' base Q own wh L u0 u1 u3 :=
  ⟨Kd.R_step h.r0 (fun k hk hlt => hm k hk.1 hlt), Kd.R_step h.r1 (fun k hk hlt => hm k hk.1 hlt), Kd.V_step h.r3 (fun k hk hlt => hm k hk.1 hlt)⟩
theorem XF.below {w w' : World} {base : Nat} {Q : Nat → Prop} {own wh : List Int} {L : List S83} {u0 u1 u3 : Value} (h : XF w base Q own wh L u0 u1 u3) (hb : Below w.heap.size w w') : XF w' base Q own wh L u0 u1 u3 := h.step (fun k _ hlt => hb.block k hlt)
theorem XF.stay {w w' : World} {base : Nat} {Q : Nat → Prop} {own wh : List Int} {L : List S83} {u0 u1 u3 : Value} {S : Nat → Prop} (h : XF w base Q own wh L u0 u1 u3) (f : Far S w w') (hS : ∀ k, S k → Q k) : XF w' base Q own wh L u0 u1 u3 := h.step (fun k hk hlt => f.block k hlt (fun hs => hk (hS k hs)))
theorem XF.at {w : World} {base : Nat} {Q Q' : Nat → Prop} {own wh : List Int} {L : List S83} {u0 u1 u3 : Value} (h : XF w base Q own wh L u0 u1 u3) {m : Nat} (hm : w.heap.size ≤ m) (hk : ∀ k, Q' k → Q k ∨ m ≤ k) : XF w base Q' own wh L u0 u1 u3 := by
  have hn : ∀ k, ¬ Q k → k < w.heap.size → ¬ Q' k := fun k h1 h2 h3 => (hk k h3).elim h1 (fun h4 => by omega)
  exact ⟨Kd.R_mono (Kd.R_bound h.r0) (fun k hk => ⟨hn k hk.1.1 hk.2.2.1, hk.1.2⟩), Kd.R_mono (Kd.R_bound h.r1) (fun k hk => ⟨hn k hk.1.1 hk.2.2.1, hk.1.2⟩), Kd.V_mono (Kd.V_bound h.r3) (fun k hk => ⟨hn k hk.1.1 hk.2, hk.1.2⟩)⟩
/-- .. told as slices that are read. -/
theorem XF.reads {w : World} {base : Nat} {Q : Nat → Prop} {own wh : List Int} {L : List S83} {u0 u1 u3 : Value} (h : XF w base Q own wh L u0 u1 u3) : ∃ A0 c0 A1 c1 A3 c3, u0 = .slice A0 own.length c0 ∧ u1 = .slice A1 wh.length c1 ∧ u3 = .slice A3 L.length c3 ∧
    (own.length ≤ c0 ∧ Kd.C (Kd.int .i64) w A0 own.length own) ∧ (wh.length ≤ c1 ∧ Kd.C (Kd.int .i64) w A1 wh.length wh) ∧ (L.length ≤ c3 ∧ Kd.C k83 w A3 L.length L) := by
  obtain ⟨A0, c0, rfl⟩ := Kd.R_slice h.r0
  obtain ⟨A1, c1, rfl⟩ := Kd.R_slice h.r1
  obtain ⟨A3, c3, rfl⟩ := Kd.V_slice h.r3
  exact ⟨A0, c0, A1, c1, A3, c3, rfl, rfl, rfl, (Kd.R_reads' h.r0).2, (Kd.R_reads' h.r1).2, (Kd.V_reads' h.r3).2⟩
theorem far_kept {base w0 w w' : World} {S : Nat → Prop} (hB : Below w0.heap.size w0 w) (hB' : Below w0.heap.size w0 w') (hk : Kept w w' S) : Far S w w' :=
  ⟨hB'.os.trans hB.os.symm, hB'.tape.trans hB.tape.symm, hB'.output.trans hB.output.symm, hk.1, hk.2⟩
/-- A call of the document's that makes owners and whens. -/
theorem XF.two {w0 w w' : World} {a : RA} {Q : Nat → Prop} {own wh own' wh' : List Int} {L : List S83} {u0 u1 u3 v0 v1 : Value} {s : RP} (h : XF w w0.heap.size Q own wh L u0 u1 u3) (hs : RS w w0.heap.size a s) (hQ : ∀ k, Q k → k < w.heap.size) (hRQ : ∀ k, Rown a k → Q k) (hB : Below w0.heap.size w0 w) (hB' : Below w0.heap.size w0 w')
    (h0 : Kd.R (Kd.int .i64) 3 w' w0.heap.size (fun k_ => ((some k_ = u0.ownBlock ∨ some k_ = u1.ownBlock) ∨ w.heap.size ≤ k_) ∧ some k_ ≠ v1.ownBlock) v0 own') (h1 : Kd.R (Kd.int .i64) 3 w' w0.heap.size (fun k_ => ((some k_ = u0.ownBlock ∨ some k_ = u1.ownBlock) ∨ w.heap.size ≤ k_) ∧ some k_ ≠ v0.ownBlock) v1 wh')
    (hk : Kept w w' (fun k_ => some k_ = u0.ownBlock ∨ some k_ = u1.ownBlock)) : XF w' w0.heap.size Q own' wh' L v0 v1 u3 ∧ RS w' w0.heap.size a s ∧ Far (fun k_ => some k_ = u0.ownBlock ∨ some k_ = u1.ownBlock) w w' := by
  have hf : Far (fun k_ => some k_ = u0.ownBlock ∨ some k_ = u1.ownBlock) w w' := far_kept (base := w) hB hB' hk
  have hn : ∀ k, ((some k = u0.ownBlock ∨ some k = u1.ownBlock) ∨ w.heap.size ≤ k) → ¬ Q k := fun k hk hr => by
    rcases hk with (e | e) | e
    · exact (h.r0.1 k e.symm).1 hr
    · exact (h.r1.1 k e.symm).1 hr
    · have := hQ k hr; omega
  refine ⟨⟨Kd.R_mono h0 (fun k hk => ⟨hn k hk.1, hk.2⟩), Kd.R_mono h1 (fun k hk => ⟨hn k hk.1, hk.2⟩), ?_⟩, hs.stay hf (fun k hr hk => hn k (.inl hk) (hRQ k hr)), hf⟩
  refine Kd.V_mono (Kd.V_kept (Kd.V_bound h.r3) hk (fun k hk he => he.elim hk.1.2.1 hk.1.2.2)) (fun k hk => ⟨hk.1.1, fun e => ?_, fun e => ?_⟩)
  · rcases (h0.1 k e.symm).1 with (e | e) | e
    · exact hk.1.2.1 e
    · exact hk.1.2.2 e
    · have := hk.2; omega
  · rcases (h1.1 k e.symm).1 with (e | e) | e
    · exact hk.1.2.1 e
    · exact hk.1.2.2 e
    · have := hk.2; omega
theorem XF.ne {w : World} {base : Nat} {Q : Nat → Prop} {own wh : List Int} {L : List S83} {u0 u1 u3 : Value} (h : XF w base Q own wh L u0 u1 u3) : (∀ k, some k = u0.ownBlock → ¬ some k = u1.ownBlock) ∧ (∀ k, some k = u1.ownBlock → ¬ some k = u0.ownBlock) :=
  ⟨fun k hk => (h.r0.1 k hk.symm).2, fun k hk => (h.r1.1 k hk.symm).2⟩
theorem x_take {w0 w : World} {a : RA} {Q : Nat → Prop} {own wh : List Int} {L : List S83} {u0 u1 u3 : Value} {s : RP} (h : XF w w0.heap.size Q own wh L u0 u1 u3) (hs : RS w w0.heap.size a s) (hQ : ∀ k, Q k → k < w.heap.size) (hRQ : ∀ k, Rown a k → Q k) (hB : Below w0.heap.size w0 w) (now owner : Int) {own' wh' : List Int} {now' n : Int} {ok : Bool} (hr : gunnyref05_Take.f 1001 own wh now owner = some (own', wh', now', n, ok)) :
    Calls Try.prog 42 #[.agg #[u0, u1, .int .i64 now], .int .i64 owner] w fun e w' => ∃ v0 v1 : Value, e = .returned (.tuple #[.agg #[v0, v1, .int .i64 now'], .int .i64 n, .bool ok]) ∧ XF w' w0.heap.size Q own' wh' L v0 v1 u3 ∧ RS w' w0.heap.size a s ∧ Far (fun k_ => some k_ = u0.ownBlock ∨ some k_ = u1.ownBlock) w w' ∧ Below w0.heap.size w0 w' ∧ (∀ k, (some k = v0.ownBlock ∨ some k = v1.ownBlock) → ((some k = u0.ownBlock ∨ some k = u1.ownBlock) ∨ w.heap.size ≤ k)) := by
  refine (gunnyref05_Take.calls 1001 (fun k => some k = u0.ownBlock) u0 own (fun k => some k = u1.ownBlock) u1 wh now owner own' wh' now' n ok w0 w hB (Kd.R_tight rfl h.r0) h.ne.1 (Kd.R_tight rfl h.r1) h.ne.2 hr).mono ?_
  rintro e w' ⟨v0, v1, rfl, h0, h1, hB', hk⟩
  obtain ⟨x1, x2, x3⟩ := h.two hs hQ hRQ hB hB' h0 h1 hk
  exact ⟨v0, v1, rfl, x1, x2, x3, hB', fun k hk => hk.elim (fun e => (h0.1 k e.symm).1) (fun e => (h1.1 k e.symm).1)⟩
theorem x_give {w0 w : World} {a : RA} {Q : Nat → Prop} {own wh : List Int} {L : List S83} {u0 u1 u3 : Value} {s : RP} (h : XF w w0.heap.size Q own wh L u0 u1 u3) (hs : RS w w0.heap.size a s) (hQ : ∀ k, Q k → k < w.heap.size) (hRQ : ∀ k, Rown a k → Q k) (hB : Below w0.heap.size w0 w) (now n : Int) {own' wh' : List Int} {now' : Int} {ok : Bool} (hr : gunnyref05_Give.f own wh now n = some (own', wh', now', ok)) :
    Calls Try.prog 35 #[.agg #[u0, u1, .int .i64 now], .int .i64 n] w fun e w' => ∃ v0 v1 : Value, e = .returned (.tuple #[.agg #[v0, v1, .int .i64 now'], .bool ok]) ∧ XF w' w0.heap.size Q own' wh' L v0 v1 u3 ∧ RS w' w0.heap.size a s ∧ Far (fun k_ => some k_ = u0.ownBlock ∨ some k_ = u1.ownBlock) w w' ∧ Below w0.heap.size w0 w' := by
  refine (gunnyref05_Give.calls (fun k => some k = u0.ownBlock) u0 own (fun k => some k = u1.ownBlock) u1 wh now n own' wh' now' ok w0 w hB (Kd.R_tight rfl h.r0) h.ne.1 (Kd.R_tight rfl h.r1) h.ne.2 hr).mono ?_
  rintro e w' ⟨v0, v1, rfl, h0, h1, hB', hk⟩
  obtain ⟨x1, x2, x3⟩ := h.two hs hQ hRQ hB hB' h0 h1 hk
  exact ⟨v0, v1, rfl, x1, x2, x3, hB'⟩
theorem x_write {w0 w : World} {a : RA} {Q : Nat → Prop} {own wh : List Int} {L : List S83} {u0 u1 : Value} {A3 : Option Addr} {c3 : Nat} {s : RP} (h : XF w w0.heap.size Q own wh L u0 u1 (.slice A3 L.length c3)) (hs : RS w w0.heap.size a s) (hQ : ∀ k, Q k → k < w.heap.size) (hRQ : ∀ k, Rown a k → Q k) (hB : Below w0.heap.size w0 w) (now n at_ : Int) (A : Option Addr) (c : Nat) (l : List Int)
    (hC : ∀ W_, Kept w W_ (fun k_ => some k_ = u0.ownBlock ∨ some k_ = u1.ownBlock) → Kd.C (Kd.int .u8) W_ A l.length l) (hc : l.length ≤ c) (hL : L.length < 1000000) (hl : l.length < 1000000) :
    Calls Try.prog 37 #[.agg #[u0, u1, .int .i64 now, .slice A3 L.length c3], .int .i64 n, .int .i64 at_, .slice A l.length c] w fun e w' => ∃ v0 v1 v3 : Value, e = .returned (.agg #[v0, v1, .int .i64 now, v3]) ∧ XF w' w0.heap.size Q own wh (L ++ [⟨n, at_, l⟩]) v0 v1 v3 ∧ RS w' w0.heap.size a s ∧ Far (fun k_ => some k_ = u0.ownBlock ∨ some k_ = u1.ownBlock) w w' ∧ Below w0.heap.size w0 w' := by
  refine (gunnyref06_Write.calls (fun k => some k = u0.ownBlock) u0 own (fun k => some k = u1.ownBlock) u1 wh now (fun k => ¬ Q k) A3 c3 L n at_ A c l own wh now (L ++ [⟨n, at_, l⟩]) w0 w hB (Kd.R_tight rfl h.r0) h.ne.1 (Kd.R_tight rfl h.r1) h.ne.2 h.r3 hC hc (Write_some own wh now L hL n at_ l hl)).mono ?_
  rintro e w' ⟨v0, v1, v3, rfl, h0, h1, h3, hB', hk⟩
  obtain ⟨x1, x2, x3⟩ := h.two hs hQ hRQ hB hB' h0 h1 hk
  refine ⟨v0, v1, v3, rfl, ⟨x1.r0, x1.r1, Kd.N_V (Kd.N_mono h3 (fun k hk => ⟨?_, hk.2⟩))⟩, x2, x3, hB'⟩
  intro hr
  rcases hk.1 with (e | e | e) | e
  · exact (h.r0.1 k e.symm).1 hr
  · exact (h.r1.1 k e.symm).1 hr
  · exact e hr
  · have := hQ k hr; omega

end Go.Proofs.Ytoejchlelamhjaa.Hand
