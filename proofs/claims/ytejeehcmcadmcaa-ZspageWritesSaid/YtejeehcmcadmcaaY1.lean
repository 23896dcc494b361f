/- zspage.there, walked. -/
import Derived.Test.YtejeehcmcadmcaaZ6
import Derived.Test.YtejeehcmcadmcaaZ7
import Derived.Test.YtejeehcmcadmcaaZ8
import Derived.Test.YtejeehcmcadmcaaZ9
import Derived.Test.YtejeehcmcadmcaaR2
namespace Go.Proofs.Ytejeehcmcadmcaa.Hand
set_option linter.unusedVariables false
set_option linter.unusedSimpArgs false
open Go.RowKit Go.Proofs.Ytejeehcmcadmcaa.R Go.Proofs.YtejeehcmcadmcaaW.PrintWords Go.Proofs.YtejeehcmcadmcaaW.PrintLast Go.Proofs.YtejeehcmcadmcaaW.PrintMore

/-- The three frames of a row. -/
def l3 (f0 f1 f2 : Int) : Array Value := #[.int .i64 f0, .int .i64 f1, .int .i64 f2]
def fr (f0 f1 f2 : Int) (i : Int) : Int := if i = 0 then f0 else if i = 1 then f1 else f2
def fine (own : List Int) (f0 f1 f2 : Int) (p : S28) : Bool := decide (p.f0 < 3 ∧ ownerOf own (fr f0 f1 f2 p.f0) ≠ 0)
/-- What can be told of a piece. -/
theorem pcs_ok {a m : Nat} {p : S28} (hp : p ∈ pcs a m) (h : a ≤ 2000000) (hm : m ≤ 4096) : 0 ≤ p.f0 ∧ p.f0 < 1000 ∧ 0 ≤ p.f1 ∧ 0 < p.f2 ∧ p.f1 + p.f2 ≤ 4096 := by
  unfold pcs at hp
  split at hp
  · cases hp
  · split at hp
    · rw [List.mem_singleton] at hp
      subst hp
      simp only [one]
      omega
    · rcases List.mem_cons.1 hp with rfl | hp
      · simp only [one]
        omega
      · rw [List.mem_singleton] at hp
        subst hp
        simp only [one]
        omega

theorem wpIn_hide {F : Fence} {n : Nat} {P : Program} {c : Code} {Q : Exit → Act → World → Prop} {a : Act} {w : World} (h : ∀ Po : Exit → Act → World → Prop, Aside0 (∀ e a w, Po e a w ↔ Q e a w) → c.wpIn F n P Po a w) : c.wpIn F n P Q a w := h Q ⟨fun _ _ _ => Iff.rfl⟩
theorem drewN_blk (W : World) (n i : Nat) : (W.drewN n).heap[i]? = W.heap[i]? := by
  induction n generalizing W with
  | zero => rfl
  | succ n ih => exact ih W.drew
theorem results_cellb {fn : Func} {p : Tmp} (h : fn.results = #[.cell p 4]) (tmps : Array Value) (w : World) (g : Nat) (b : Bool)
    (hp : tmps.getD p undef = .pointer (some ⟨g, 0, none⟩)) (hg : w.heap[g]? = some (.cells #[.bool b] 4 (0, 0))) :
    (results fn tmps).run Try.prog w = .ok (.bool b) w := by
  have hp' : tmps[p]?.getD undef = .pointer (some ⟨g, 0, none⟩) := by simpa using hp
  have hc : w.cell? ⟨g, 0, none⟩ = some (.bool b) := by unfold World.cell?; rw [hg]; rfl
  simp [results, h, hp', asAddr, go_sem, hc]

set_option maxHeartbeats 8000000 in
set_option maxRecDepth 100000 in
theorem there_nil (a0 a1 a2 a3 : Int) (A : Option Addr) (len c : Nat) (w : World) :
    Calls Try.prog 21 #[.pointer none, .slice A len c, .int .i64 a0, .int .i64 a1, .int .i64 a2, .int .i64 a3] w fun e w' => e = .returned (.bool false) ∧ Below w.heap.size w w' := by
  go_enter Try.func21, Try.ntmps21
  go_wp2
  have q2 := blk_new ((w.alloc (.cells #[.pointer none] 32 (0, 0))).alloc (.cells #[.slice A len c] 33 (0, 0))) (.cells #[.bool false] 4 (0, 0))
  rw [World.size_alloc, World.size_alloc] at q2
  exact bodyPost_ret (results_cellb rfl _ _ (w.heap.size + 1 + 1) false rfl q2) rfl ⟨rfl, below_alloc (below_alloc (below_alloc (Below.refl _ _) _) _) _⟩
attribute [local go_sem] Oper.semAt_some
set_option maxHeartbeats 8000000 in
set_option maxRecDepth 100000 in
theorem there_in (k base : Nat) (a : RA) (own F : List Int) (t : Int) (B : List Int) (s n f m : Nat) (rb c : Nat) (f0 f1 f2 : Int) (w : World) (h : Ram w base a own F t B)
    (hr : w.heap[rb]? = some (.cells (l3 f0 f1 f2) 3 (0, 0))) (hm : mayB (s : Int) (n : Int) (f : Int) (m : Int) = true) :
    CallsIn Fence.wide k Try.prog 21 #[.pointer (some ⟨a.g, 0, none⟩), .slice (some ⟨rb, 0, none⟩) 3 c, .int .i64 s, .int .i64 n, .int .i64 f, .int .i64 m] w fun e w' => e = .returned (.bool ((pcs (s * n + f) m).all (fine own f0 f1 f2))) ∧ Below w.heap.size w w' := by
  have hmay := fun W => zspage_may.calls (s : Int) (n : Int) (f : Int) (m : Int) true W (by rw [may_eq _ _ _ _ (by omega) (by have := of_decide_eq_true hm; omega), hm])
  have hmm := of_decide_eq_true hm
  replace hm := Aside0.mk hmm
  clear hmm
  refine callsIn_of_wp_marks Try.func21 rfl trivial ?_ rfl
  simp only [Try.ntmps21, List.size_toArray, List.length_cons, List.length_nil, Nat.reduceAdd, Nat.reduceSub, Array.replicate_succ, Array.replicate_zero, List.push_toArray, List.append_toArray, List.nil_append, List.cons_append]
  have q0 := blk_new w (.cells #[.pointer (some ⟨a.g, 0, none⟩)] 32 (0, 0))
  have q1 := blk_new (w.alloc (.cells #[.pointer (some ⟨a.g, 0, none⟩)] 32 (0, 0))) (.cells #[.slice (some ⟨rb, 0, none⟩) 3 c] 33 (0, 0))
  have q2 := blk_new ((w.alloc (.cells #[.pointer (some ⟨a.g, 0, none⟩)] 32 (0, 0))).alloc (.cells #[.slice (some ⟨rb, 0, none⟩) 3 c] 33 (0, 0))) (.cells #[.bool false] 4 (0, 0))
  have r0 := blk_alloc (blk_alloc q0 (.cells #[.slice (some ⟨rb, 0, none⟩) 3 c] 33 (0, 0))) (.cells #[.bool false] 4 (0, 0))
  have r1 := blk_alloc q1 (.cells #[.bool false] 4 (0, 0))
  rw [World.size_alloc] at r1 q2
  rw [World.size_alloc] at q2
  have hb := below_alloc (below_alloc (below_alloc (Below.refl _ w) (.cells #[.pointer (some ⟨a.g, 0, none⟩)] 32 (0, 0))) (.cells #[.slice (some ⟨rb, 0, none⟩) 3 c] 33 (0, 0))) (.cells #[.bool false] 4 (0, 0))
  have hz : (((w.alloc (.cells #[.pointer (some ⟨a.g, 0, none⟩)] 32 (0, 0))).alloc (.cells #[.slice (some ⟨rb, 0, none⟩) 3 c] 33 (0, 0))).alloc (.cells #[.bool false] 4 (0, 0))).heap.size = w.heap.size + 3 := by rw [World.size_alloc, World.size_alloc, World.size_alloc]
  generalize hW1 : ((w.alloc (.cells #[.pointer (some ⟨a.g, 0, none⟩)] 32 (0, 0))).alloc (.cells #[.slice (some ⟨rb, 0, none⟩) 3 c] 33 (0, 0))).alloc (.cells #[.bool false] 4 (0, 0)) = W1 at r0 r1 q2 hb hz
  clear q0 q1
  have k0 := hbox r0
  replace h := Aside0.mk h
  replace hr := Aside0.mk hr
  have hW1' := Aside0.mk hW1
  clear hW1
  replace r0 := Aside0.mk r0
  replace r1 := Aside0.mk r1
  replace q2 := Aside0.mk q2
  replace hb := Aside0.mk hb
  replace hz := Aside0.mk hz
  gi_wp2_with (refine ⟨trivial, (fun h => (by cases h)), ?_⟩; first | (gi_at_call 15; rw [hW1'.out]; refine (callsIn_wide.2 (hmay _)).mono ?_; rintro e w2 ⟨rfl, hd⟩; have hb2 := Aside0.mk hd.below; clear hd) | (gi_at_call 17; refine (callsIn_wide.2 (mk_calls (s : Int) (n : Int) (f : Int) (m : Int) w2)).mono ?_; rintro e w3 ⟨b0, b1, b2, b3, rfl, z0, z1, z2, z3, z4, hb3⟩; replace z0 := Aside0.mk z0; replace z1 := Aside0.mk z1; replace z2 := Aside0.mk z2; replace z3 := Aside0.mk z3; replace z4 := Aside0.mk z4; replace hb3 := Aside0.mk hb3))
  have e2 := hb2.out.size
  have e3 := hb3.out.size
  have ez := hz.out
  have e4 := z4.out
  have e5 := blk_lt z3.out
  have hb4 : Below w.heap.size w w3 := (hb.out.trans (Below_low hb2.out (by omega))).trans (Below_low hb3.out (by omega))
  have R0 := (h.out.below hb4)
  have G6 := blk_below (blk_below r0.out hb2.out) hb3.out
  have G7 := blk_below (blk_below r1.out hb2.out) hb3.out
  have G8 := blk_below (blk_below q2.out hb2.out) hb3.out
  have GR := blk_below hr.out hb4
  have hlow := fun k (hk : Rown a k) => (h.out.own_lt k hk).2
  have hrl := blk_lt hr.out
  have hfW : ∀ W, Far (fun i => i = b3 ∨ i = w.heap.size + 1 + 1) w3 W → Ram W base a own F t B ∧ W.heap[w.heap.size]? = some (.cells #[.pointer (some ⟨a.g, 0, none⟩)] 32 (0, 0)) ∧ W.heap[w.heap.size + 1]? = some (.cells #[.slice (some ⟨rb, 0, none⟩) 3 c] 33 (0, 0)) ∧ W.heap[rb]? = some (.cells (l3 f0 f1 f2) 3 (0, 0)) := fun W hf =>
    ⟨R0.stay hf (fun k hk e => by have := hlow k hk; omega), hf.blk G6 (fun e => by omega), hf.blk G7 (fun e => by omega), hf.blk GR (fun e => by omega)⟩
  replace hfW := Aside0.mk hfW
  have ha2 : s * n + f ≤ 2000000 := by
    have h1 := hm.out
    have h2 : s * n ≤ 4096 * 255 := Nat.mul_le_mul (by omega) (by omega)
    omega
  have hm4 : m ≤ 4096 := by have := hm.out; omega
  clear G6 G7 GR R0
  replace hb4 := Aside0.mk hb4
  replace G8 := Aside0.mk G8
  refine range_some (all := pcs (s * n + f) m) (T := fun i => i = b3) (encs := fun x => #[enc3 x]) (gf := 24) (lb := #[.pointer (some ⟨b0, 0, none⟩), .pointer (some ⟨b1, 0, none⟩), .pointer (some ⟨b2, 0, none⟩), .pointer (some ⟨b3, 0, none⟩)]) rfl (enters_of Try.func24 (by kernel_rfl) rfl) (fun _ => rfl) (fun i e => by rw [e]; omega) ?seq (fun pre _ W => Far (fun i => i = b3) w3 W ∧ pre.all (fine own f0 f1 f2) = true) ?sIs ?s0 (fun pre W => (Far (fun i => i = b3 ∨ i = w.heap.size + 1 + 1) w3 W ∧ W.heap[w.heap.size + 1 + 1]? = some (.cells #[.bool false] 4 (0, 0))) ∧ pre.all (fine own f0 f1 f2) = false) ?sIx (fun pre x B a' W => ∃ pb, (w3.heap.size + 2 ≤ pb ∧ pb < W.heap.size) ∧ W.heap[pb]? = some (.cells #[.int .i64 x.f0, .int .i64 x.f1, .int .i64 x.f2] 29 (0, 0)) ∧ a' = ⟨#[.pointer (some ⟨a.g, 0, none⟩), .slice (some ⟨rb, 0, none⟩) 3 c, .int .i64 s, .int .i64 n, .int .i64 f, .int .i64 m, .pointer (some ⟨w.heap.size, 0, none⟩), .pointer (some ⟨w.heap.size + 1, 0, none⟩), undef, undef, undef, undef, .pointer (some ⟨w.heap.size + 1 + 1, 0, none⟩), .pointer (some ⟨pb, 0, none⟩), .pointer (some ⟨a.g, 0, none⟩), .bool false, .bool false, .int .i64 s, .int .i64 n, .int .i64 f, .int .i64 m, .bool true, .bool false, .bool false, .int .i64 s, .int .i64 n, .int .i64 f, .int .i64 m, .func (.func 24) #[] #[.pointer (some ⟨b0, 0, none⟩), .pointer (some ⟨b1, 0, none⟩), .pointer (some ⟨b2, 0, none⟩), .pointer (some ⟨b3, 0, none⟩)], .agg #[.int .i64 x.f0, .int .i64 x.f1, .int .i64 x.f2], undef, undef, undef, undef, undef, undef, undef, undef, undef, undef, undef, undef, undef, undef, undef, undef, undef, undef], []⟩ ∧ Far (fun i => i = b3) w3 W ∧ pre.all (fine own f0 f1 f2) = true) ?sAs ?assign ?body ?done ?stop
  case seq =>
    intro W hW J Jx hY h0
    exact pieces2_in (w3.heap.size + 1) b0 b1 b2 b3 (k - 1) s n f m J Jx W hY (blk_below z0.out hW) (blk_below z1.out hW) (blk_below z2.out hW) (blk_below z3.out hW) (by have := hm.out; omega) (by have := hm.out; omega) (by have := hm.out; omega) hm4 h0 (by have := hW.size; omega)
  case sIs =>
    rintro pre B W W' ⟨h1, h2⟩ hfar
    exact ⟨h1.trans hfar (fun i hi => by have := h1.size; omega), h2⟩
  case s0 =>
    intro W hW hs2
    exact ⟨Far.of_below hW, rfl⟩
  case sIx =>
    rintro pre W W' ⟨⟨h1, h2⟩, h3⟩ hfar
    exact ⟨⟨h1.trans hfar (fun i hi => by have := h1.size; omega), hfar.blk h2 (fun e => by omega)⟩, h3⟩
  case sAs =>
    rintro pre x B a' W W' ⟨pb, h1, h2, h3, h4, h5⟩ hfar
    exact ⟨pb, ⟨h1.1, Nat.lt_of_lt_of_le h1.2 hfar.size⟩, hfar.blk h2 (fun e => by omega), h3, h4.trans hfar (fun i hi => by have := h4.size; omega), h5⟩
  case assign =>
    rintro pre ⟨x0, x1, x2⟩ B W K ⟨hI, hI2⟩ hB hD hK
    simp only [enc3]
    have hpb := blk_new W (.cells #[.int .i64 x0, .int .i64 x1, .int .i64 x2] 29 (0, 0))
    have hbl : Below W.heap.size W (W.alloc (.cells #[.int .i64 x0, .int .i64 x1, .int .i64 x2] 29 (0, 0))) := (Below.refl _ W).alloc (Nat.le_refl _) _
    replace hpb := Aside0.mk hpb
    replace hbl := Aside0.mk hbl
    replace hI := Aside0.mk hI
    replace hI2 := Aside0.mk hI2
    gi_wp2
    refine hK _ _ ⟨W.heap.size, ⟨by omega, blk_lt hpb.out⟩, hpb.out, rfl, hI.out.trans (Far.of_below (S := fun _ => False) hbl.out) (fun _ h => h.elim), hI2.out⟩ hbl.out
  case body =>
    rintro pre x B a' W ⟨rest, hpl⟩ ⟨pb, h1, h2, rfl, hI, hp⟩ hB hD
    have hx : x ∈ pcs (s * n + f) m := by rw [hpl]; simp
    obtain ⟨p0, p1, p2, p3, p4⟩ := pcs_ok hx ha2 hm4
    obtain ⟨hR, g6, g7, gr⟩ := hfW.out W (hI.mono (fun i h => .inl h))
    obtain ⟨q, hq⟩ := hR.of
    have hO := owner_q base a.f own F t a.o a.c0 a.A1 a.c1 (fr f0 f1 f2 x.f0) 
    have kx : W.cell? ⟨pb, 0, none⟩ = some (.int .i64 x.f0) := (blk_cell h2 0).trans rfl
    have g8 := hI.blk G8.out (fun e => by omega)
    have k8 := hbox g8
    have fr8 := blk_frozen g8 0
    replace g8 := Aside0.mk g8
    have k6 := hbox g6
    have k7 := hbox g7
    have kg : W.cell? ⟨a.g, 0, none⟩ = some (.pointer (some ⟨a.f, 0, none⟩)) := (blk_cell hq.blk 0).trans rfl
    have hq' := Aside0.mk hq
    replace gr := Aside0.mk gr
    replace hI := Aside0.mk hI
    replace hp := Aside0.mk hp
    replace hpl := Aside0.mk hpl
    clear hx p2 p3 p4 g6 g7 hR hq h2
    refine wpIn_hide (fun Po hPo => ?_)
    refine wpIn_block ?_
    refine wpIn_seq ?_
    generalize hQ : Exit.then _ _ = QQ
    by_cases hc : x.f0 < 3
    · obtain ⟨y, hy⟩ : ∃ y : Nat, x.f0 = (y : Int) := ⟨x.f0.toNat, by omega⟩
      have c1 : decide (x.f0 ≥ 3) = false := decide_eq_false (by omega)
      have c2 : decide (3 ≤ x.f0) = false := decide_eq_false (by omega)
      have hy3 : y < 3 := by omega
      have c3 : decide ((y : Int) ≥ 3) = false := decide_eq_false (by omega)
      have c4 : decide (3 ≤ (y : Int)) = false := decide_eq_false (by omega)
      have c5 : decide (3 ≤ y) = false := decide_eq_false (by omega)
      have kr : W.cell? ⟨rb, y, none⟩ = some (.int .i64 (fr f0 f1 f2 x.f0)) := by
        rw [blk_cell gr.out y, hy]
        match y, hy3 with
        | 0, _ => rfl
        | 1, _ => rfl
        | 2, _ => rfl
      rw [hy] at kx
      obtain ⟨z, hz2⟩ : ∃ z, z = fr f0 f1 f2 x.f0 := ⟨_, rfl⟩
      rw [← hz2] at kr
      have hO := fun W (hW : FS W base a.f own F t a.o a.c0 a.A1 a.c1) => owner_q base a.f own F t a.o a.c0 a.A1 a.c1 z W hW
      obtain ⟨ow, how⟩ : ∃ ow, ow = ownerOf own z := ⟨_, rfl⟩
      rw [← how] at hO
      have hfs := hq'.out.fs
      have hO2 := fun nn => Aside0.mk (hO (W.drewN nn) (hfs.below (pw_below_drewN (Below.refl _ _) nn)))
      replace hO2 := Aside0.mk hO2
      have hfi : fine own f0 f1 f2 x = decide (ow ≠ 0) := by
        unfold fine
        rw [← hz2, ← how]
        simp [hc]
      replace hfi := Aside0.mk hfi
      replace how := Aside0.mk how
      replace hz2 := Aside0.mk hz2
      replace hy := Aside0.mk hy
      clear hO hfs c1 c2
      have hy0 : (0 : Int) ≤ (y : Int) := by omega
      have hy4 : (y : Int) < 3 := by omega
      replace hQ := Aside0.mk hQ
      refine quiet_round (fun h => ?hq) (by simp) (by kernel_rfl) (by kernel_rfl) ?_
      case hq =>
        obtain ⟨a, w', h⟩ := h
        rw [← hQ.out] at h
        rcases (hPo.out _ _ _).1 h with h | h <;> cases h.1
      repeat (any_goals (first | go_big_quiet_step ((go_at_call 29; exact Calls.quiet_of_same (hO2.out _).out)) | quiet_step ((go_at_call 29; exact Calls.quiet_of_same (hO2.out _).out))))
      refine wpQuiet_nil ?_
      rintro _ ⟨nq, rfl⟩
      rw [← hQ.out]
      clear hQ QQ
      by_cases ho : ow = 0
      · have d1 : (ow == 0) = true := beq_iff_eq.mpr ho
        gi_wp2
        refine (hPo.out _ _ _).2 (.inr ⟨rfl, ⟨⟨?_, ?_⟩, ?_⟩, ?_⟩)
        · exact ((hI.out.mono (fun i h => .inl h)).drewN nq).setS (.inr rfl) 0 _
        · exact blk_put (blkd g8.out) 0 _ rfl
        · rw [List.all_append, hp.out]
          simp only [List.all_cons, List.all_nil, Bool.true_and, Bool.and_true]
          rw [hfi.out]
          exact decide_eq_false (fun h => h ho)
        · intro i hi
          have hz8 := blk_lt G8.out
          rw [Below.heap_setCell _ _ _ _ (show i ≠ w.heap.size + 1 + 1 by omega)]
          exact drewN_blk W nq i
      · have d1 : (ow == 0) = false := beq_eq_false_iff_ne.mpr ho
        gi_wp2
        refine (hPo.out _ _ _).2 (.inl ⟨rfl, ⟨hI.out.drewN nq, ?_⟩, ?_, ?_⟩)
        · rw [List.all_append, hp.out]
          simp only [List.all_cons, List.all_nil, Bool.true_and, Bool.and_true]
          rw [hfi.out]
          exact decide_eq_true ho
        · exact (pw_below_drewN (Below.refl 0 W) nq).size
        · intro i hi
          exact drewN_blk W nq i
    · have c1 : decide (x.f0 ≥ 3) = true := decide_eq_true (by omega)
      have c2 : decide (3 ≤ x.f0) = true := decide_eq_true (by omega)
      replace hQ := Aside0.mk hQ
      refine quiet_round (fun h => ?hq) (by simp) (by kernel_rfl) (by kernel_rfl) ?_
      case hq =>
        obtain ⟨a, w', h⟩ := h
        rw [← hQ.out] at h
        rcases (hPo.out _ _ _).1 h with h | h <;> cases h.1
      repeat (any_goals (first | go_big_quiet_step (fail) | quiet_step (fail)))
      refine wpQuiet_nil ?_
      rintro _ ⟨nq, rfl⟩
      rw [← hQ.out]
      clear hQ QQ
      gi_wp2
      refine (hPo.out _ _ _).2 (.inr ⟨rfl, ⟨⟨?_, ?_⟩, ?_⟩, ?_⟩)
      · exact ((hI.out.mono (fun i h => .inl h)).drewN nq).setS (.inr rfl) 0 _
      · exact blk_put (blkd g8.out) 0 _ rfl
      · rw [List.all_append, hp.out]
        simp only [List.all_cons, List.all_nil, Bool.true_and, Bool.and_true]
        exact decide_eq_false (fun h => by omega)
      · intro i hi
        have hz8 := blk_lt G8.out
        rw [Below.heap_setCell _ _ _ _ (show i ≠ w.heap.size + 1 + 1 by omega)]
        exact drewN_blk W nq i
  case done =>
    rintro B W ⟨hI, hp⟩ hK
    have g8 := hI.blk G8.out (fun e => by omega)
    have k8 := hbox g8
    have fr8 := blk_frozen g8 0
    replace g8 := Aside0.mk g8
    replace hp := Aside0.mk hp
    replace hK := Aside0.mk hK
    replace hI := Aside0.mk hI
    gi_wp2
    have hz8 := blk_lt G8.out
    have g9 : ((W.setCell ⟨w.heap.size + 1 + 1, 0, none⟩ (.bool true)).putObj w3.heap.size (.deferred none)).heap[w.heap.size + 1 + 1]? = some (.cells #[.bool true] 4 (0, 0)) := (World.putObj_heap_other (by omega)).trans (blk_put g8.out 0 _ rfl)
    refine ⟨by simp, .inl ⟨_, _, rfl, run_takeDeferred ((Below.heap_setCell _ _ _ _ (show w3.heap.size ≠ w.heap.size + 1 + 1 by omega)).trans hK.out), ?_⟩⟩
    refine ⟨_, results_cellb rfl _ _ (w.heap.size + 1 + 1) true rfl g9, by rw [hp.out], ?_⟩
    exact hb4.out.trans ((((hI.out.mono (fun i h => .inl h)).setS (S := fun i => i = b3 ∨ i = w.heap.size + 1 + 1) (.inr rfl) 0 (.bool true)).putObj (.inr (Nat.le_refl _)) _).below (by omega) (fun i hi => by omega))
  case stop =>
    rintro pre rest W hpl ⟨⟨hI, g8⟩, hp⟩ hK
    have hall : (pcs (s * n + f) m).all (fine own f0 f1 f2) = false := by rw [hpl, List.all_append, hp, Bool.false_and]
    replace hall := Aside0.mk hall
    replace hp := Aside0.mk hp
    replace hK := Aside0.mk hK
    replace hI := Aside0.mk hI
    replace g8 := Aside0.mk g8
    gi_wp2
    have hz8 := blk_lt G8.out
    refine ⟨by simp, .inl ⟨_, _, rfl, run_takeDeferred hK.out, ?_⟩⟩
    refine ⟨_, results_cellb rfl _ _ (w.heap.size + 1 + 1) false rfl ((World.putObj_heap_other (by omega)).trans g8.out), by rw [hall.out], ?_⟩
    exact hb4.out.trans ((hI.out.putObj (.inr (Nat.le_refl _)) _).below (by omega) (fun i hi => by omega))

end Go.Proofs.Ytejeehcmcadmcaa.Hand
