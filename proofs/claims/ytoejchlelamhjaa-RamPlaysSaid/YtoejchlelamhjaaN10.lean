/- RamPlays, plain: a box of the document's struct is no block of its frames. No walk. -/
import Derived.Test.YtoejchlelamhjaaN6
namespace Go.Proofs.Ytoejchlelamhjaa.Hand
set_option linter.unusedVariables false
set_option linter.unusedSimpArgs false
open Go.RowKit Go.Proofs.Ytoejchlelamhjaa.R Go.Proofs.Ytoejchlelamhjaa.Byt Go.Proofs.YtoejchlelamhjaaW.PrintWords Go.Proofs.YtoejchlelamhjaaW.PrintLast Go.Proofs.YtoejchlelamhjaaW.PrintMore

/-- A world, one block of which is laid anew. -/
def withB (W : World) (g : Nat) (o : Obj) : World := { W with heap := Array.ofFn (n := max W.heap.size (g + 1)) fun k => if k.val = g then o else W.heap.getD k.val (.cells #[] 0 (0, 0)) }
theorem withB_get (W : World) (g : Nat) (o : Obj) (k : Nat) : (withB W g o).heap[k]? = if k < max W.heap.size (g + 1) then some (if k = g then o else W.heap.getD k (.cells #[] 0 (0, 0))) else none := by
  unfold withB
  rw [Array.getElem?_ofFn]
  by_cases h : k < max W.heap.size (g + 1)
  · rw [dif_pos h, if_pos h]
  · rw [dif_neg h, if_neg h]
theorem withB_at (W : World) (g : Nat) (o : Obj) : (withB W g o).heap[g]? = some o := by
  rw [withB_get, if_pos (by omega), if_pos rfl]
theorem withB_ne {W : World} {g : Nat} {o : Obj} {k : Nat} (h : k ≠ g) (hk : k < W.heap.size) : (withB W g o).heap[k]? = W.heap[k]? := by
  rw [withB_get, if_pos (by omega), if_neg h, Array.getElem?_eq_getElem hk, Array.getD_eq_getD_getElem?, Array.getElem?_eq_getElem hk]
  rfl
theorem withB_cell {W : World} {g : Nat} {o : Obj} {p : Addr} {u : Value} (h : p.block ≠ g) (hc : (withB W g o).cell? p = some u) : W.cell? p = some u := by
  unfold World.cell? at hc ⊢
  by_cases hk : p.block < W.heap.size
  · rw [withB_ne h hk] at hc
    exact hc
  · rw [withB_get] at hc
    by_cases h2 : p.block < max W.heap.size (g + 1)
    · rw [if_pos h2, if_neg h, Array.getD_eq_getD_getElem?, Array.getElem?_eq_none (by omega)] at hc
      simp at hc
    · rw [if_neg h2] at hc
      simp at hc
theorem add_block (ad : Addr) (n : Nat) : (ad.add n).block = ad.block := by unfold Addr.add; split <;> rfl
theorem add_off (ad : Addr) (n : Nat) : (ad.add n).off = ad.off + n := by
  unfold Addr.add
  split
  · omega
  · rfl
theorem box_int {w : World} {g : Nat} {a0 a1 a3 : Option Addr} {l0 l1 l3 c0 c1 c3 : Nat} {now : Int} (hg : w.heap[g]? = some (C57 (.slice a0 l0 c0) (.slice a1 l1 c1) now (.slice a3 l3 c3))) {p : Addr} (hp : p.block = g) {k : IntKind} {x : Int} (h : w.cell? p = some (.int k x)) : p.off = 2 ∧ k = .i64 := by
  unfold World.cell? at h
  rw [hp, hg] at h
  have h' : (if p.spot.isSome then none else (#[Value.slice a0 l0 c0, .slice a1 l1 c1, .int .i64 now, .slice a3 l3 c3] : Array Value)[p.off]?) = some (.int k x) := h
  by_cases hs : p.spot.isSome = true
  · rw [if_pos hs] at h'; cases h'
  · rw [if_neg hs] at h'
    generalize p.off = j at h' ⊢
    match j, h' with
    | 0, h' => simp at h'
    | 1, h' => simp at h'
    | 2, h' =>
      simp at h'
      exact ⟨rfl, h'.1.symm⟩
    | 3, h' => simp at h'
    | j + 4, h' => simp at h'
theorem F83_box {W : World} {ok : Nat → Prop} {A : Option Addr} {L : List S83} {g : Nat} {a0 a1 a3 : Option Addr} {l0 l1 l3 c0 c1 c3 : Nat} {now : Int} (h : Kd.F k83 W ok A L.length L) (hg : W.heap[g]? = some (C57 (.slice a0 l0 c0) (.slice a1 l1 c1) now (.slice a3 l3 c3))) :
    Kd.F k83 W (fun k => ok k ∧ k ≠ g) A L.length L := by
  intro W' hW
  obtain ⟨V, hV⟩ : ∃ V, V = withB W' g (C57 (.slice a0 l0 c0) (.slice a1 l1 c1) now (.slice a3 l3 c3)) := ⟨_, rfl⟩
  have hgV : V.heap[g]? = some (C57 (.slice a0 l0 c0) (.slice a1 l1 c1) now (.slice a3 l3 c3)) := by rw [hV]; exact withB_at _ _ _
  have hcV : ∀ p u, p.block ≠ g → V.cell? p = some u → W'.cell? p = some u := fun p u hp hc => withB_cell hp (by rw [← hV]; exact hc)
  have h2 := h V (fun k hk hlt => by
    by_cases e : k = g
    · rw [e, hgV, hg]
    · have e2 := hW k ⟨hk, e⟩ hlt
      rw [hV, withB_ne e (heap_lt e2 hlt)]
      exact e2)
  clear hV hW h
  refine ⟨h2.1, h2.2.1, fun hn => ?_⟩
  obtain ⟨ad, hA, hc⟩ := h2.2.2 hn
  refine ⟨ad, hA, fun j p hp => ?_⟩
  obtain ⟨c, hl, hK, hcell⟩ := hc j p hp
  obtain ⟨A2, c2, rfl, l2, g2⟩ := k83_open hK
  have q0 := hcell 0 _ rfl
  have q1 := hcell 1 _ rfl
  have hne : ad.block ≠ g := fun e => by
    have r0 := (box_int hgV (by rw [add_block]; exact e) q0).1
    have r1 := (box_int hgV (by rw [add_block]; exact e) q1).1
    rw [add_off] at r0 r1
    omega
  refine ⟨_, rfl, k83_mk W' p l2 ?_, fun i u hu => hcV _ _ (by rw [add_block]; exact hne) (hcell i u hu)⟩
  refine ⟨g2.1, g2.2.1, fun hn2 => ?_⟩
  obtain ⟨ad2, hA2, hc2⟩ := g2.2.2 hn2
  refine ⟨ad2, hA2, fun j2 p2 hp2 => ?_⟩
  obtain ⟨c3, hl3, hK3, hcell3⟩ := hc2 j2 p2 hp2
  have hK4 : c3 = [Value.int .u8 p2] := hK3
  subst hK4
  refine ⟨_, hl3, hK3, fun i u hu => hcV _ _ (fun e => ?_) (hcell3 i u hu)⟩
  have q := hcell3 0 _ rfl
  rw [add_block] at e
  exact absurd (box_int hgV (by rw [add_block]; exact e) q).2 (by decide)
theorem R_box {w : World} {base : Nat} {ok : Nat → Prop} {v : Value} {xs : List Int} (h : Kd.R (Kd.int .i64) 3 w base ok v xs) {g : Nat} {cs : Array Value} (hg : w.heap[g]? = some (.cells cs 57 (0, 0))) : Kd.R (Kd.int .i64) 3 w base (fun k => ok k ∧ k ≠ g) v xs :=
  Kd.R_mono (Kd.R_bound h) (fun k hk => ⟨hk.1, fun e => by
    obtain ⟨q, hq, _, hc⟩ := hk.2.2.2
    rw [e, hg] at hc
    injection hc with hc
    injection hc with _ hc
    have hq' : q = 3 := by
      rcases List.mem_cons.1 hq with h | h
      · exact h
      · exact absurd h (List.not_mem_nil)
    rw [hq'] at hc
    exact absurd hc (by decide)⟩)
theorem ST.free {w0 w : World} {a : RA} {own F : List Int} {t : Int} {B : List Int} {q : Int} {wh : List Int} {now : Int} {L : List S83} {u0 u1 u3 : Value} {m i : Nat} (h : ST w0 w a own F t B q wh now L u0 u1 u3 m i) {g : Nat} {cs : Array Value} (hg : w.heap[g]? = some (.cells cs 57 (0, 0))) : ¬ (Rown a g ∨ (some g = u0.ownBlock ∨ some g = u1.ownBlock)) := by
  rintro (e | e | e)
  · rcases e with e | e | e
    · have := h.rs.blk
      rw [← e, hg] at this
      cases this
    · obtain ⟨_, hc⟩ := h.rs.b_typ
      rw [← e, hg] at hc
      cases hc
    · obtain ⟨_, T, hc, hT⟩ := h.rs.fs.own_typ g e
      rw [hg] at hc
      injection hc with hc
      injection hc with _ hc
      rcases hT with e | e <;> rw [e] at hc <;> exact absurd hc (by decide)
  · obtain ⟨_, hc⟩ := Kd.R_typed h.xf.r0 g e.symm
    rw [hg] at hc
    cases hc
  · obtain ⟨_, hc⟩ := Kd.R_typed h.xf.r1 g e.symm
    rw [hg] at hc
    cases hc
/-- .. and may be laid anew. -/
theorem ST.box {w0 w w' : World} {a : RA} {own F : List Int} {t : Int} {B : List Int} {q : Int} {wh : List Int} {now : Int} {L : List S83} {u0 u1 u3 : Value} {m i : Nat} (h : ST w0 w a own F t B q wh now L u0 u1 u3 m i) {g : Nat} {a0 a1 a3 : Option Addr} {l0 l1 l3 c0 c1 c3 : Nat} {n : Int} (hg : w.heap[g]? = some (C57 (.slice a0 l0 c0) (.slice a1 l1 c1) n (.slice a3 l3 c3))) (hf : Far (fun k => k = g) w w') (hge : w0.heap.size ≤ g) : ST w0 w' a own F t B q wh now L u0 u1 u3 m i := by
  have hfr := h.free hg
  have hx : XF w w0.heap.size (fun k => Rown a k ∨ k = g) own wh L u0 u1 u3 := ⟨Kd.R_mono (R_box h.xf.r0 hg) (fun k hk => ⟨fun e => e.elim hk.1.1 hk.2, hk.1.2⟩), Kd.R_mono (R_box h.xf.r1 hg) (fun k hk => ⟨fun e => e.elim hk.1.1 hk.2, hk.1.2⟩), by
    obtain ⟨A, c, hv, hl, hF⟩ := h.xf.r3
    exact ⟨A, c, hv, hl, Kd.F_mono (F83_box hF hg) (fun k hk => ⟨fun e => e.elim hk.1.1 hk.2, hk.1.2⟩)⟩⟩
  exact ⟨h.rs.stay hf (fun k hr e => hfr (.inl (by rw [← e]; exact hr))), (hx.stay hf (fun k e => .inr e)).mono (fun k hk => .inl hk), h.pi, h.bel.trans (hf.below h.bel.size (fun k e => by rw [e]; exact hge)), h.now, h.len, h.m96, h.i60⟩

end Go.Proofs.Ytoejchlelamhjaa.Hand
