/- zspage.Read, walked. -/
import Derived.Test.YtejeehcmcadmcaaY2
import Derived.Deep.RegionHeld3
namespace Go.Proofs.Ytejeehcmcadmcaa.Hand
set_option linter.unusedVariables false
set_option linter.unusedSimpArgs false
open Go.RowKit Go.Proofs.Ytejeehcmcadmcaa.R Go.Proofs.YtejeehcmcadmcaaW.PrintWords Go.Proofs.YtejeehcmcadmcaaW.PrintLast Go.Proofs.YtejeehcmcadmcaaW.PrintMore

set_option maxHeartbeats 8000000 in
set_option maxRecDepth 100000 in
theorem zread_no' (a0 a1 a2 a3 : Int) (r A : Option Addr) (len c : Nat) (w : World)
    (hT : ∀ W, Below w.heap.size w W → Calls Try.prog 21 #[.pointer r, .slice A len c, .int .i64 a0, .int .i64 a1, .int .i64 a2, .int .i64 a3] W fun e w' => e = .returned (.bool false) ∧ Below W.heap.size W w') :
    Calls Try.prog 10 #[.pointer r, .slice A len c, .int .i64 a0, .int .i64 a1, .int .i64 a2, .int .i64 a3] w fun e w' => e = .returned (.tuple #[.slice none 0 0, .bool false]) ∧ Below w.heap.size w w' := by
  have hT' := hT ((w.alloc (.cells #[.pointer r] 32 (0, 0))).alloc (.cells #[.slice A len c] 33 (0, 0))) (below_alloc (below_alloc (Below.refl _ _) _) _)
  replace hT' := Aside0.mk hT'
  clear hT
  go_enter Try.func10, Try.ntmps10
  go_wp2_with (go_at_call 21; refine hT'.out.mono ?_; rintro e w2 ⟨rfl, hb2⟩; replace hb2 := Aside0.mk hb2)
  go_returns
  exact ⟨rfl, (below_alloc (below_alloc (Below.refl _ _) _) _).trans (Below_low hb2.out (by rw [World.size_alloc, World.size_alloc]; omega))⟩

def pieceB (own B : List Int) (f0 f1 f2 : Int) (p : S28) : List Int := part own B (fr f0 f1 f2 p.f0) p.f1 p.f2
theorem part_le (own B : List Int) (n at_ size : Int) : (part own B n at_ size).length ≤ size.toNat := by
  unfold part
  split
  · rw [List.length_take]; omega
  · simp
theorem flat_le {α : Type} (g : α → List Int) (N : Nat) : ∀ (l : List α), (∀ x ∈ l, (g x).length ≤ N) → (l.flatMap g).length ≤ N * l.length
  | [], _ => by simp
  | x :: l, h => by
    have h1 := h x (by simp)
    have h2 := flat_le g N l (fun y hy => h y (by simp [hy]))
    rw [List.flatMap_cons, List.length_append, List.length_cons, Nat.mul_add]
    omega
/-- The state between two rounds. -/
structure RdI (w3 : World) (b3 ob base : Nat) (a : RA) (own F : List Int) (t : Int) (B bytes : List Int) (Bd : Nat) (W : World) : Prop where
  far : Far (fun i => i = b3 ∨ i = a.g ∨ i = ob) w3 W
  ram : Ram W base a own F t B
  row : ∃ v, W.heap[ob]? = some (.cells #[v] 36 (0, 0)) ∧ RB W w3.heap.size (fun _ => True) v bytes ∧ ∀ i, v.ownBlock = some i → w3.heap.size + 2 ≤ i ∧ i < Bd
theorem RdI.go {w3 W W' : World} {b3 ob base : Nat} {a : RA} {own F : List Int} {t : Int} {B bytes : List Int} {Bd : Nat} (h : RdI w3 b3 ob base a own F t B bytes Bd W)
    (f : Far (fun i => i = b3 ∨ i = w3.heap.size ∨ i = w3.heap.size + 1) W W') (ho : ob < w3.heap.size) (hob : ob ≠ b3) (hR : ∀ k, Rown a k → k < w3.heap.size ∧ k ≠ b3) (h3 : b3 < w3.heap.size) : RdI w3 b3 ob base a own F t B bytes Bd W' := by
  obtain ⟨v, h1, h2, h4⟩ := h.row
  have hz := h.far.size
  refine ⟨h.far.trans f (fun i hi => by rcases hi with e | e | e; exact .inl (.inl e); exact .inr (by omega); exact .inr (by omega)), h.ram.stay f (fun k hk e => by have := hR k hk; omega), v, f.blk h1 (fun e => by omega), ?_, h4⟩
  exact Kd.R_mono (Kd.R_step (Kd.R_tight rfl h2) (fun i hi hlt => f.block i hlt (fun e => by have := (h4 i hi.symm).1; omega))) (fun _ _ => trivial)

theorem held_round {P : Program} {ops : Array Oper} {Q : Exit → Act → World → Prop} {S : World → Prop} {l n id : Nat} (hQ : ¬ LetsOut Q) (hd : ∀ o ∈ ops.toList, ∀ c, o.op ≠ .defer c) {a : Act} {w : World} (hm : P.follows .mixedOrders = true) (hS : S w.drew)
    (h : S w.drew → wpAnyH P .any ops Q S ops.size (Array.replicate ops.size false) a w.drew) : (Code.region id ops true).wpIn (Fence.wide.inRound l) n P Q a w :=
  draw_round hQ hd hm (wpAny_of_held _ _ _ _ (h hS))

attribute [local go_sem] Oper.semAt_some
set_option maxHeartbeats 8000000 in
set_option maxRecDepth 100000 in
theorem zread_in (k base : Nat) (a : RA) (own F : List Int) (t : Int) (B : List Int) (s n f m : Nat) (rb c : Nat) (f0 f1 f2 : Int) (w : World) (h : Ram w base a own F t B) {gm gf : Nat} (hg : Gd own F B gm gf)
    (hr : w.heap[rb]? = some (.cells (l3 f0 f1 f2) 3 (0, 0))) (hm : mayB (s : Int) (n : Int) (f : Int) (m : Int) = true) (hth : thereB own f0 f1 f2 (s : Int) (n : Int) (f : Int) (m : Int) = true) (hrg : rb ≠ a.g) :
    CallsIn Fence.wide k Try.prog 10 #[.pointer (some ⟨a.g, 0, none⟩), .slice (some ⟨rb, 0, none⟩) 3 c, .int .i64 s, .int .i64 n, .int .i64 f, .int .i64 m] w fun e w' => ∃ A c2, e = .returned (.tuple #[.slice A ((pcs (s * n + f) m).flatMap (pieceB own B f0 f1 f2)).length c2, .bool true]) ∧ RB w' w.heap.size (fun _ => True) (.slice A ((pcs (s * n + f) m).flatMap (pieceB own B f0 f1 f2)).length c2) ((pcs (s * n + f) m).flatMap (pieceB own B f0 f1 f2)) ∧ Ram w' base a own F t B ∧ Far (fun i => i = a.g) w w' := by
  have hmm := of_decide_eq_true hm
  replace hm := Aside0.mk hmm
  clear hmm
  have q0 := blk_new w (.cells #[.pointer (some ⟨a.g, 0, none⟩)] 32 (0, 0))
  have r1 := blk_new (w.alloc (.cells #[.pointer (some ⟨a.g, 0, none⟩)] 32 (0, 0))) (.cells #[.slice (some ⟨rb, 0, none⟩) 3 c] 33 (0, 0))
  have r0 := blk_alloc q0 (.cells #[.slice (some ⟨rb, 0, none⟩) 3 c] 33 (0, 0))
  rw [World.size_alloc] at r1
  have hb := below_alloc (below_alloc (Below.refl _ w) (.cells #[.pointer (some ⟨a.g, 0, none⟩)] 32 (0, 0))) (.cells #[.slice (some ⟨rb, 0, none⟩) 3 c] 33 (0, 0))
  have hz : ((w.alloc (.cells #[.pointer (some ⟨a.g, 0, none⟩)] 32 (0, 0))).alloc (.cells #[.slice (some ⟨rb, 0, none⟩) 3 c] 33 (0, 0))).heap.size = w.heap.size + 2 := by rw [World.size_alloc, World.size_alloc]
  have hT := there_any base a own F t B (s : Int) (n : Int) (f : Int) (m : Int) rb c f0 f1 f2 _ (h.below hb) (blk_below hr hb) (by omega) (by have := hm.out; omega)
  rw [hth] at hT
  replace hT := Aside0.mk hT
  replace h := Aside0.mk h
  replace hr := Aside0.mk hr
  replace r0 := Aside0.mk r0
  replace r1 := Aside0.mk r1
  replace hb := Aside0.mk hb
  replace hz := Aside0.mk hz
  replace hg := Aside0.mk hg
  have hall : ∀ p ∈ pcs (s * n + f) m, fine own f0 f1 f2 p = true := by
    unfold thereB at hth
    rw [show ((s : Int) * (n : Int) + (f : Int)).toNat = s * n + f by rw [← Int.natCast_mul]; omega, Int.toNat_natCast] at hth
    have h2 := (Bool.and_eq_true_iff.1 hth).2
    exact List.all_eq_true.1 h2
  replace hall := Aside0.mk hall
  clear q0 hth
  refine callsIn_of_wp_marks Try.func10 rfl trivial ?_ rfl
  simp only [Try.ntmps10, List.size_toArray, List.length_cons, List.length_nil, Nat.reduceAdd, Nat.reduceSub, Array.replicate_succ, Array.replicate_zero, List.push_toArray, List.append_toArray, List.nil_append, List.cons_append]
  gi_wp2_with (refine ⟨trivial, (fun h => (by cases h)), ?_⟩; first | (gi_at_call 21; refine (callsIn_wide.2 hT.out).mono ?_; rintro e w2 ⟨rfl, hd⟩; have hb2 := Aside0.mk hd; clear hd) | (gi_at_call 17; refine (callsIn_wide.2 (mk_calls (s : Int) (n : Int) (f : Int) (m : Int) (w2.alloc (.cells #[.slice none 0 0] 36 (0, 0))))).mono ?_; rintro e w3 ⟨b0, b1, b2, b3, rfl, z0, z1, z2, z3, z4, hb3⟩; replace z0 := Aside0.mk z0; replace z1 := Aside0.mk z1; replace z2 := Aside0.mk z2; replace z3 := Aside0.mk z3; replace z4 := Aside0.mk z4; replace hb3 := Aside0.mk hb3))
  have e2 := hb2.out.size
  have e3 := hb3.out.size
  have ez := hz.out
  have e4 := z4.out
  have e5 := blk_lt z3.out
  have es : (w2.alloc (.cells #[.slice none 0 0] 36 (0, 0))).heap.size = w2.heap.size + 1 := World.size_alloc _ _
  have qo := blk_new w2 (.cells #[.slice none 0 0] 36 (0, 0))
  have hbo := below_alloc (Below.refl w2.heap.size w2) (.cells #[.slice none 0 0] 36 (0, 0))
  have hb4 : Below w.heap.size w w3 := ((hb.out.trans (Below_low hb2.out (by omega))).trans (Below_low hbo (by omega))).trans (Below_low hb3.out (by omega))
  have R0 := (h.out.below hb4)
  have G6 := blk_below (blk_below (blk_below r0.out hb2.out) hbo) hb3.out
  have G7 := blk_below (blk_below (blk_below r1.out hb2.out) hbo) hb3.out
  have G8 := blk_below qo hb3.out
  have GR := blk_below hr.out hb4
  have hlow := fun k (hk : Rown a k) => (h.out.own_lt k hk).2
  have hrl := blk_lt hr.out
  have hgl := hlow a.g (.inl rfl)
  have hfW : ∀ W, Far (fun i => i = b3 ∨ i = a.g ∨ i = w2.heap.size) w3 W → W.heap[w.heap.size]? = some (.cells #[.pointer (some ⟨a.g, 0, none⟩)] 32 (0, 0)) ∧ W.heap[w.heap.size + 1]? = some (.cells #[.slice (some ⟨rb, 0, none⟩) 3 c] 33 (0, 0)) ∧ W.heap[rb]? = some (.cells (l3 f0 f1 f2) 3 (0, 0)) := fun W hf =>
    ⟨hf.blk G6 (fun e => by omega), hf.blk G7 (fun e => by omega), hf.blk GR (fun e => by omega)⟩
  have hgo : ∀ k, Rown a k → k < w3.heap.size ∧ k ≠ b3 := fun k hk => by have := hlow k hk; omega
  replace hgo := Aside0.mk hgo
  replace hfW := Aside0.mk hfW
  have ha2 : s * n + f ≤ 2000000 := by
    have h1 := hm.out
    have h2 : s * n ≤ 4096 * 255 := Nat.mul_le_mul (by omega) (by omega)
    omega
  have hm4 : m ≤ 4096 := by have := hm.out; omega
  clear G6 G7 GR
  replace R0 := Aside0.mk R0
  replace hb4 := Aside0.mk hb4
  replace G8 := Aside0.mk G8
  replace qo := Aside0.mk qo
  replace hbo := Aside0.mk hbo
  refine range_some (all := pcs (s * n + f) m) (T := fun i => i = b3) (encs := fun x => #[enc3 x]) (gf := 24) (lb := #[.pointer (some ⟨b0, 0, none⟩), .pointer (some ⟨b1, 0, none⟩), .pointer (some ⟨b2, 0, none⟩), .pointer (some ⟨b3, 0, none⟩)]) rfl (enters_of Try.func24 (by kernel_rfl) rfl) (fun _ => rfl) (fun i e => by rw [e]; omega) ?seq (fun pre Bd W => RdI w3 b3 w2.heap.size base a own F t B (pre.flatMap (pieceB own B f0 f1 f2)) Bd W) ?sIs ?s0 (fun pre W => False) (fun _ _ _ h => h.elim) (fun pre x Bd a' W => ∃ pb, (w3.heap.size + 2 ≤ pb ∧ pb < W.heap.size ∧ Bd ≤ pb) ∧ W.heap[pb]? = some (.cells #[.int .i64 x.f0, .int .i64 x.f1, .int .i64 x.f2] 29 (0, 0)) ∧ a' = ⟨#[.pointer (some ⟨a.g, 0, none⟩), .slice (some ⟨rb, 0, none⟩) 3 c, .int .i64 s, .int .i64 n, .int .i64 f, .int .i64 m, .pointer (some ⟨w.heap.size, 0, none⟩), .pointer (some ⟨w.heap.size + 1, 0, none⟩), undef, undef, undef, undef, .slice none 0 0, .bool false, .pointer (some ⟨w2.heap.size, 0, none⟩), .pointer (some ⟨pb, 0, none⟩), undef, undef, .pointer (some ⟨a.g, 0, none⟩), .slice (some ⟨rb, 0, none⟩) 3 c, .int .i64 s, .int .i64 n, .int .i64 f, .int .i64 m, .bool true, .bool false, .int .i64 s, .int .i64 n, .int .i64 f, .int .i64 m, .func (.func 24) #[] #[.pointer (some ⟨b0, 0, none⟩), .pointer (some ⟨b1, 0, none⟩), .pointer (some ⟨b2, 0, none⟩), .pointer (some ⟨b3, 0, none⟩)], .agg #[.int .i64 x.f0, .int .i64 x.f1, .int .i64 x.f2], undef, undef, undef, undef, undef, undef, undef, undef, undef, undef, undef, undef, undef, undef, undef, undef, undef, undef], []⟩ ∧ RdI w3 b3 w2.heap.size base a own F t B (pre.flatMap (pieceB own B f0 f1 f2)) Bd W) ?sAs ?assign ?body ?done (fun _ _ _ _ h => h.elim)
  case seq =>
    intro W hW J Jx hY h0
    exact pieces2_in (w3.heap.size + 1) b0 b1 b2 b3 (k - 1) s n f m J Jx W hY (blk_below z0.out hW) (blk_below z1.out hW) (blk_below z2.out hW) (blk_below z3.out hW) (by have := hm.out; omega) (by have := hm.out; omega) (by have := hm.out; omega) hm4 h0 (by have := hW.size; omega)
  case sIs =>
    rintro pre Bd W W' h1 hfar
    exact h1.go hfar (by omega) (by omega) hgo.out e5
  case s0 =>
    intro W hW hs2
    exact ⟨Far.of_below hW, R0.out.below hW, _, blk_below G8.out hW, Kd.R_nil _ _ _ _ _, fun i h => by cases h⟩
  case sAs =>
    rintro pre x Bd a' W W' ⟨pb, h1, h2, h3, h4⟩ hfar
    exact ⟨pb, ⟨h1.1, Nat.lt_of_lt_of_le h1.2.1 hfar.size, h1.2.2⟩, hfar.blk h2 (fun e => by omega), h3, h4.go hfar (by omega) (by omega) hgo.out e5⟩
  case assign =>
    rintro pre ⟨x0, x1, x2⟩ Bd W K hI hB hD hK
    simp only [enc3]
    have hpb := blk_new W (.cells #[.int .i64 x0, .int .i64 x1, .int .i64 x2] 29 (0, 0))
    have hbl : Below W.heap.size W (W.alloc (.cells #[.int .i64 x0, .int .i64 x1, .int .i64 x2] 29 (0, 0))) := (Below.refl _ W).alloc (Nat.le_refl _) _
    replace hpb := Aside0.mk hpb
    replace hbl := Aside0.mk hbl
    replace hI := Aside0.mk hI
    gi_wp2
    refine hK _ _ ⟨W.heap.size, ⟨by omega, blk_lt hpb.out, hB⟩, hpb.out, rfl, hI.out.go (Far.of_below hbl.out) (by omega) (by omega) hgo.out e5⟩ hbl.out
  case body =>
    rintro pre x Bd a' W ⟨rest, hpl⟩ ⟨pb, h1, h2, rfl, hI⟩ hB hD
    have hx : x ∈ pcs (s * n + f) m := by rw [hpl]; simp
    obtain ⟨p0, p1, p2, p3, p4⟩ := pcs_ok hx ha2 hm4
    obtain ⟨g6, g7, gr⟩ := hfW.out W hI.far
    have kx0 : W.cell? ⟨pb, 0, none⟩ = some (.int .i64 x.f0) := (blk_cell h2 0).trans rfl
    have kx1 : W.cell? ⟨pb, 1, none⟩ = some (.int .i64 x.f1) := (blk_cell h2 1).trans rfl
    have kx2 : W.cell? ⟨pb, 2, none⟩ = some (.int .i64 x.f2) := (blk_cell h2 2).trans rfl
    have k6 := hbox g6
    have k7 := hbox g7
    have hf3 : x.f0 < 3 := by
      have := hall.out x hx
      unfold fine at this
      exact (of_decide_eq_true this).1
    obtain ⟨y, hy⟩ : ∃ y : Nat, x.f0 = (y : Int) := ⟨x.f0.toNat, by omega⟩
    have hy3 : y < 3 := by omega
    have c5 : decide (y < 3) = true := decide_eq_true hy3
    have hy0 : (0 : Int) ≤ (y : Int) := by omega
    have hy4 : (y : Int) < 3 := by omega
    have kr : W.cell? ⟨rb, y, none⟩ = some (.int .i64 (fr f0 f1 f2 x.f0)) := by
      rw [blk_cell gr y, hy]
      match y, hy3 with
      | 0, _ => rfl
      | 1, _ => rfl
      | 2, _ => rfl
    rw [hy] at kx0
    obtain ⟨z, hz2⟩ : ∃ z, z = fr f0 f1 f2 x.f0 := ⟨_, rfl⟩
    rw [← hz2] at kr
    have hRd := read_any base a own F t B z x.f1 x.f2 W.drew (hI.ram.below (below_drew (Below.refl _ _))) hg.out (by omega)
    have hpB : pieceB own B f0 f1 f2 x = part own B z x.f1 x.f2 := by unfold pieceB; rw [← hz2]
    have hple := part_le own B z x.f1 x.f2
    have hfl := flat_le (pieceB own B f0 f1 f2) 4096 pre (fun u hu => by
      have hu' : u ∈ pcs (s * n + f) m := by rw [hpl]; simp [hu]
      obtain ⟨_, _, _, _, _⟩ := pcs_ok hu' ha2 hm4
      unfold pieceB
      have := part_le own B (fr f0 f1 f2 u.f0) u.f1 u.f2
      omega)
    have hp2 := pcs_len (s * n + f) m
    rw [hpl, List.length_append, List.length_cons] at hp2
    obtain ⟨L, hL⟩ : ∃ L, L = pre.flatMap (pieceB own B f0 f1 f2) := ⟨_, rfl⟩
    obtain ⟨P, hP⟩ : ∃ P, P = part own B z x.f1 x.f2 := ⟨_, rfl⟩
    rw [← hL] at hfl hI
    rw [← hP] at hRd hpB hple
    have hlen : L.length + P.length ≤ 100000 := by
      have : 4096 * pre.length ≤ 4096 * 1 := Nat.mul_le_mul_left _ (by omega)
      omega
    replace hlen := Aside0.mk hlen
    replace hRd := Aside0.mk hRd
    replace hpB := Aside0.mk hpB
    replace hL := Aside0.mk hL
    replace hP := Aside0.mk hP
    replace hI := Aside0.mk hI
    replace hpl := Aside0.mk hpl
    replace hz2 := Aside0.mk hz2
    replace hy := Aside0.mk hy
    replace h2 := Aside0.mk h2
    clear hx p0 p1 p2 p3 p4 g6 g7 gr hfl hple hp2 hf3
    refine wpIn_hide (fun Po hPo => ?_)
    refine wpIn_block ?_
    refine wpIn_seq ?_
    generalize hQ : Exit.then _ _ = QQ
    replace hQ := Aside0.mk hQ
    have hQp : ∀ c a a' w, QQ (.panic c) a w → QQ (.panic c) a' w := fun c a a' w h => by
      rw [← hQ.out] at h
      rcases (hPo.out _ _ _).1 h with h | h <;> cases h.1
    replace hQp := hQp
    refine held_round (S := fun w' : World => w'.cell? ⟨w.heap.size, 0, none⟩ = some (.pointer (some ⟨a.g, 0, none⟩)) ∧ w'.cell? ⟨w.heap.size + 1, 0, none⟩ = some (.slice (some ⟨rb, 0, none⟩) 3 c) ∧ w'.cell? ⟨pb, 0, none⟩ = some (.int .i64 (y : Int)) ∧ w'.cell? ⟨pb, 1, none⟩ = some (.int .i64 x.f1) ∧ w'.cell? ⟨pb, 2, none⟩ = some (.int .i64 x.f2) ∧ w'.cell? ⟨rb, y, none⟩ = some (.int .i64 z)) (fun h => ?hq) (by simp) (by kernel_rfl) ⟨k6, k7, kx0, kx1, kx2, kr⟩ (fun hHeld => ?_)
    case hq =>
      obtain ⟨a, w', h⟩ := h
      rw [← hQ.out] at h
      rcases (hPo.out _ _ _).1 h with h | h <;> cases h.1
    refine wpAnyH_take (i := 0) (oi := { dst := some 33, op := Op.load 32 (Operand.tmp 6), type := 32, pos := "zspage.go:72", after := #[], guard := none }) (v := ?_) rfl (by kernel_rfl) (by kernel_rfl) (by kernel_rfl) (fun _ _ _ h => hQp _ _ _ _ h) (Or.inl ⟨by rfl, ?_⟩) (by assumption) ?_
    rotate_left
    · (intro wq hSw; (try dsimp only at hSw); go_simp; try (with_reducible rfl))
    try simp only [Act.put, List.setIfInBounds_toArray, List.set_cons_zero, List.set_cons_succ]
    refine wpAnyH_take (i := 1) (oi := { dst := some 34, op := Op.load 33 (Operand.tmp 7), type := 33, pos := "zspage.go:72", after := #[], guard := none }) (v := ?_) rfl (by kernel_rfl) (by kernel_rfl) (by kernel_rfl) (fun _ _ _ h => hQp _ _ _ _ h) (Or.inl ⟨by rfl, ?_⟩) (by assumption) ?_
    rotate_left
    · (intro wq hSw; (try dsimp only at hSw); go_simp; try (with_reducible rfl))
    try simp only [Act.put, List.setIfInBounds_toArray, List.set_cons_zero, List.set_cons_succ]
    refine wpAnyH_take (i := 2) (oi := { dst := some 35, op := Op.fieldAddr 29 (Operand.tmp 15) 0, type := 0, pos := "zspage.go:72", after := #[], guard := none }) (v := ?_) rfl (by kernel_rfl) (by kernel_rfl) (by kernel_rfl) (fun _ _ _ h => hQp _ _ _ _ h) (Or.inl ⟨by rfl, ?_⟩) (by assumption) ?_
    rotate_left
    · (intro wq hSw; (try dsimp only at hSw); go_simp; try (with_reducible rfl))
    try simp only [Act.put, List.setIfInBounds_toArray, List.set_cons_zero, List.set_cons_succ]
    refine wpAnyH_take (i := 3) (oi := { dst := some 36, op := Op.load 3 (Operand.tmp 35), type := 3, pos := "zspage.go:72", after := #[{ on := 2, ground := Ground.data }], guard := none }) (v := ?_) rfl (by kernel_rfl) (by kernel_rfl) (by kernel_rfl) (fun _ _ _ h => hQp _ _ _ _ h) (Or.inl ⟨by rfl, ?_⟩) (by assumption) ?_
    rotate_left
    · (intro wq hSw; (try dsimp only at hSw); go_simp; try (with_reducible rfl))
    try simp only [Act.put, List.setIfInBounds_toArray, List.set_cons_zero, List.set_cons_succ]
    refine wpAnyH_take (i := 4) (oi := { dst := some 37, op := Op.indexAddr 33 (Operand.tmp 34) (Operand.tmp 36), type := 0, pos := "zspage.go:72", after := #[{ on := 1, ground := Ground.data }, { on := 3, ground := Ground.data }], guard := none }) (v := ?_) rfl (by kernel_rfl) (by kernel_rfl) (by kernel_rfl) (fun _ _ _ h => hQp _ _ _ _ h) (Or.inl ⟨by rfl, ?_⟩) (by assumption) ?_
    rotate_left
    · (intro wq hSw; (try dsimp only at hSw); go_simp; try (with_reducible rfl))
    try simp only [Act.put, List.setIfInBounds_toArray, List.set_cons_zero, List.set_cons_succ]
    refine wpAnyH_take (i := 5) (oi := { dst := some 38, op := Op.load 3 (Operand.tmp 37), type := 3, pos := "zspage.go:72", after := #[{ on := 4, ground := Ground.data }], guard := none }) (v := ?_) rfl (by kernel_rfl) (by kernel_rfl) (by kernel_rfl) (fun _ _ _ h => hQp _ _ _ _ h) (Or.inl ⟨by rfl, ?_⟩) (by assumption) ?_
    rotate_left
    · (intro wq hSw; (try dsimp only at hSw); go_simp; try (with_reducible rfl))
    try simp only [Act.put, List.setIfInBounds_toArray, List.set_cons_zero, List.set_cons_succ]
    refine wpAnyH_take (i := 6) (oi := { dst := some 39, op := Op.fieldAddr 29 (Operand.tmp 15) 1, type := 0, pos := "zspage.go:72", after := #[], guard := none }) (v := ?_) rfl (by kernel_rfl) (by kernel_rfl) (by kernel_rfl) (fun _ _ _ h => hQp _ _ _ _ h) (Or.inl ⟨by rfl, ?_⟩) (by assumption) ?_
    rotate_left
    · (intro wq hSw; (try dsimp only at hSw); go_simp; try (with_reducible rfl))
    try simp only [Act.put, List.setIfInBounds_toArray, List.set_cons_zero, List.set_cons_succ]
    refine wpAnyH_take (i := 7) (oi := { dst := some 40, op := Op.load 3 (Operand.tmp 39), type := 3, pos := "zspage.go:72", after := #[{ on := 6, ground := Ground.data }], guard := none }) (v := ?_) rfl (by kernel_rfl) (by kernel_rfl) (by kernel_rfl) (fun _ _ _ h => hQp _ _ _ _ h) (Or.inl ⟨by rfl, ?_⟩) (by assumption) ?_
    rotate_left
    · (intro wq hSw; (try dsimp only at hSw); go_simp; try (with_reducible rfl))
    try simp only [Act.put, List.setIfInBounds_toArray, List.set_cons_zero, List.set_cons_succ]
    refine wpAnyH_take (i := 8) (oi := { dst := some 41, op := Op.fieldAddr 29 (Operand.tmp 15) 2, type := 0, pos := "zspage.go:72", after := #[], guard := none }) (v := ?_) rfl (by kernel_rfl) (by kernel_rfl) (by kernel_rfl) (fun _ _ _ h => hQp _ _ _ _ h) (Or.inl ⟨by rfl, ?_⟩) (by assumption) ?_
    rotate_left
    · (intro wq hSw; (try dsimp only at hSw); go_simp; try (with_reducible rfl))
    try simp only [Act.put, List.setIfInBounds_toArray, List.set_cons_zero, List.set_cons_succ]
    refine wpAnyH_take (i := 9) (oi := { dst := some 42, op := Op.load 3 (Operand.tmp 41), type := 3, pos := "zspage.go:72", after := #[{ on := 8, ground := Ground.data }], guard := none }) (v := ?_) rfl (by kernel_rfl) (by kernel_rfl) (by kernel_rfl) (fun _ _ _ h => hQp _ _ _ _ h) (Or.inl ⟨by rfl, ?_⟩) (by assumption) ?_
    rotate_left
    · (intro wq hSw; (try dsimp only at hSw); go_simp; try (with_reducible rfl))
    try simp only [Act.put, List.setIfInBounds_toArray, List.set_cons_zero, List.set_cons_succ]
    refine wpAnyH_ready (rs := [10]) (by kernel_rfl) (by simp) ?_
    refine AllReadyH.cons (o := { dst := some 43, op := Op.call { callee := Callee.value (Operand.func 22), args := #[Operand.tmp 33, Operand.tmp 38, Operand.tmp 40, Operand.tmp 42], argTypes := #[32, 3, 3, 3] }, type := 37, pos := "zspage.go:72", after := #[{ on := 0, ground := Ground.data }, { on := 5, ground := Ground.data }, { on := 7, ground := Ground.data }, { on := 9, ground := Ground.data }], guard := none }) rfl (fun K hK => ?_) ?_
    rotate_left
    · exact AllReadyH.nil
    go_simp
    go_at_call 22
    refine hRd.out.mono ?_
    rintro e w7 ⟨A7, c7, rfl, hr7, hR7, hf7⟩
    replace hr7 := Aside0.mk hr7
    replace hR7 := Aside0.mk hR7
    replace hf7 := Aside0.mk hf7
    refine hK.out _ _ ?_ (fun hHeld => ?_)
    · exact ⟨cell_far hf7.out (fun e => by have e' : w.heap.size = a.g := e; omega) k6, cell_far hf7.out (fun e => by have e' : w.heap.size + 1 = a.g := e; omega) k7, cell_far hf7.out (fun e => by have e' : pb = a.g := e; omega) kx0, cell_far hf7.out (fun e => by have e' : pb = a.g := e; omega) kx1, cell_far hf7.out (fun e => by have e' : pb = a.g := e; omega) kx2, cell_far hf7.out (fun e => hrg e) kr⟩
    clear hK K
    try simp only [Act.put, List.setIfInBounds_toArray, List.set_cons_zero, List.set_cons_succ]
    refine wpAnyH_take (i := 11) (oi := { dst := some 32, op := Op.move (Operand.tmp 43), type := 37, pos := "zspage.go:72", after := #[{ on := 10, ground := Ground.data }], guard := none }) (v := ?_) rfl (by kernel_rfl) (by kernel_rfl) (by kernel_rfl) (fun _ _ _ h => hQp _ _ _ _ h) (Or.inl ⟨by rfl, ?_⟩) (by assumption) ?_
    rotate_left
    · (intro wq hSw; (try dsimp only at hSw); go_simp; try (with_reducible rfl))
    try simp only [Act.put, List.setIfInBounds_toArray, List.set_cons_zero, List.set_cons_succ]
    refine wpAnyH_take (i := 12) (oi := { dst := some 44, op := Op.extract (Operand.tmp 32) 0, type := 36, pos := "zspage.go:72", after := #[{ on := 11, ground := Ground.data }], guard := none }) (v := ?_) rfl (by kernel_rfl) (by kernel_rfl) (by kernel_rfl) (fun _ _ _ h => hQp _ _ _ _ h) (Or.inl ⟨by rfl, ?_⟩) (by assumption) ?_
    rotate_left
    · (intro wq hSw; (try dsimp only at hSw); go_simp; try (with_reducible rfl))
    try simp only [Act.put, List.setIfInBounds_toArray, List.set_cons_zero, List.set_cons_succ]
    refine wpAnyH_take (i := 13) (oi := { dst := some 45, op := Op.extract (Operand.tmp 32) 1, type := 4, pos := "zspage.go:72", after := #[{ on := 11, ground := Ground.data }, { on := 14, ground := Ground.gcOnly Departure.lateStores }], guard := none }) (v := ?_) rfl (by kernel_rfl) (by kernel_rfl) (by kernel_rfl) (fun _ _ _ h => hQp _ _ _ _ h) (Or.inl ⟨by rfl, ?_⟩) (by assumption) ?_
    rotate_left
    · (intro wq hSw; (try dsimp only at hSw); go_simp; try (with_reducible rfl))
    try simp only [Act.put, List.setIfInBounds_toArray, List.set_cons_zero, List.set_cons_succ]
    refine wpAnyH_take (i := 14) (oi := { dst := some 16, op := Op.assign (Operand.tmp 44), type := 36, pos := "zspage.go:72", after := #[{ on := 12, ground := Ground.data }, { on := 10, ground := Ground.chain }, { on := 0, ground := Ground.phase }, { on := 1, ground := Ground.phase }, { on := 2, ground := Ground.phase }, { on := 3, ground := Ground.phase }, { on := 4, ground := Ground.phase }, { on := 5, ground := Ground.phase }, { on := 6, ground := Ground.phase }, { on := 7, ground := Ground.phase }, { on := 8, ground := Ground.phase }, { on := 9, ground := Ground.phase }, { on := 10, ground := Ground.phase }, { on := 11, ground := Ground.phase }, { on := 12, ground := Ground.phase }, { on := 13, ground := Ground.textOnly Departure.lateStores }], guard := none }) (v := ?_) rfl (by kernel_rfl) (by kernel_rfl) (by kernel_rfl) (fun _ _ _ h => hQp _ _ _ _ h) (Or.inl ⟨by rfl, ?_⟩) (by assumption) ?_
    rotate_left
    · (intro wq hSw; (try dsimp only at hSw); go_simp; try (with_reducible rfl))
    try simp only [Act.put, List.setIfInBounds_toArray, List.set_cons_zero, List.set_cons_succ]
    refine wpAnyH_take (i := 15) (oi := { dst := some 17, op := Op.assign (Operand.tmp 45), type := 4, pos := "zspage.go:72", after := #[{ on := 13, ground := Ground.data }, { on := 14, ground := Ground.chain }, { on := 0, ground := Ground.phase }, { on := 1, ground := Ground.phase }, { on := 2, ground := Ground.phase }, { on := 3, ground := Ground.phase }, { on := 4, ground := Ground.phase }, { on := 5, ground := Ground.phase }, { on := 6, ground := Ground.phase }, { on := 7, ground := Ground.phase }, { on := 8, ground := Ground.phase }, { on := 9, ground := Ground.phase }, { on := 10, ground := Ground.phase }, { on := 11, ground := Ground.phase }, { on := 12, ground := Ground.phase }, { on := 13, ground := Ground.phase }, { on := 14, ground := Ground.phase }], guard := none }) (v := ?_) rfl (by kernel_rfl) (by kernel_rfl) (by kernel_rfl) (fun _ _ _ h => hQp _ _ _ _ h) (Or.inl ⟨by rfl, ?_⟩) (by assumption) ?_
    rotate_left
    · (intro wq hSw; (try dsimp only at hSw); go_simp; try (with_reducible rfl))
    try simp only [Act.put, List.setIfInBounds_toArray, List.set_cons_zero, List.set_cons_succ]
    refine wpAnyH_done (by kernel_rfl) ?_ _
    rw [← hQ.out]
    clear hQp hQ QQ hHeld
    try simp only [Exit.then]
    obtain ⟨hi1, hi2, v, hv, hrow, ho⟩ := hI.out
    have hzW := hi1.size
    have f7' : Far (fun k => k = a.g) W w7 := (Far.drew (Far.refl (fun k => k = a.g) W)).then_ hf7.out
    have hv7 := f7'.blk hv (fun e => by have e' : w2.heap.size = a.g := e; omega)
    have kv := hbox hv7
    have fv := blk_frozen hv7 0
    have hvlt := blk_lt hv7
    have hW7 := f7'.size
    have hrow7 : RB w7 w3.heap.size (fun _ => True) v L := Kd.R_mono (Kd.R_step (Kd.R_tight rfl hrow) (fun i hi hlt => f7'.block i hlt (fun e => by have e' : i = a.g := e; have := (ho i hi.symm).1; omega))) (fun _ _ => trivial)
    have hR7' := Kd.R_reads' hr7.out
    obtain ⟨A, cc, rfl⟩ := Kd.R_slice hrow
    generalize hQ : Exit.inBlock 1 _ = QQ
    refine region_round (fun h => ?hq2) ?hd ?_
    case hq2 =>
      obtain ⟨a, w', h⟩ := h
      rw [← hQ] at h
      rcases (hPo.out _ _ _).1 h with h | h <;> cases h.1
    case hd => simp
    replace hQ := Aside0.mk hQ
    replace hi1 := Aside0.mk hi1
    replace hi2 := Aside0.mk hi2
    replace hv := Aside0.mk hv
    replace hrow := Aside0.mk hrow
    replace ho := Aside0.mk ho
    replace f7' := Aside0.mk f7'
    replace hv7 := Aside0.mk hv7
    replace hrow7 := Aside0.mk hrow7
    replace hR7' := Aside0.mk hR7'
    go_wp2_with (first | ((with_reducible refine gate_builtin (b := .append) (xs := #[.tmp 46, .tmp 47]) rfl ?_); at_builtin; refine Kd.R_append_row (Value.int .u8) 0 (w0 := w7) w3.heap.size rfl (.tmp 46) (.tmp 47) 36 5 (.int .u8 0) 1 rfl Try.underlying36 info5 rfl (by decide) (.slice A L.length cc) L P A7 P.length c7 (fun _ => True) rfl rfl (fun _ _ => trivial) hrow7.out hR7'.out.2.2 ?aB ?aS ?aL ?_; (case aB => exact Below.refl _ _); (case aS => omega); (case aL => have := hlen.out; omega); intro v8 w8 ho8 hb8 hg8 hat8; obtain ⟨A8, c8, e8⟩ := Kd.R_slice ho8; rw [List.length_append] at e8; subst e8; have hv8 := (hg8.block w2.heap.size (blk_lt hv7.out) (fun e => by have := (ho.out _ e.symm).1; omega)).trans hv7.out; have fv8 := blk_frozen hv8 0; have kv8 := hbox hv8; replace ho8 := Aside0.mk ho8; replace hb8 := Aside0.mk hb8; replace hg8 := Aside0.mk hg8; replace hat8 := Aside0.mk hat8; replace hv8 := Aside0.mk hv8))
    rw [← hQ.out]
    have hown : ∀ i, (Value.slice A8 (L.length + P.length) c8).ownBlock = some i → w3.heap.size + 2 ≤ i ∧ i < w8.heap.size := fun i hi => by
      refine ⟨?_, Kd.R_lt ho8.out i hi⟩
      rcases hat8.out with h | ⟨b, h, hb⟩
      · exact (ho.out i (h ▸ hi)).1
      · rw [h] at hi
        injection hi with hi
        omega
    have hs8 := hg8.out.size
    have hblk : ∀ i, i ≠ w2.heap.size → i ≠ a.g → i < W.heap.size → (∀ j, (Value.slice A L.length cc).ownBlock = some j → i ≠ j) → (w8.setCell ⟨w2.heap.size, 0, none⟩ (.slice A8 (L.length + P.length) c8)).heap[i]? = W.heap[i]? := fun i h1 h0 h2 h3 => by
      rw [Below.heap_setCell _ _ _ _ (show i ≠ w2.heap.size from h1), hg8.out.block i (by omega) (fun e => h3 i e.symm rfl)]
      exact f7'.out.block i h2 h0
    have hfar8 : Far (fun i => i = a.g ∨ i = w2.heap.size ∨ w3.heap.size + 2 ≤ i) W (w8.setCell ⟨w2.heap.size, 0, none⟩ (.slice A8 (L.length + P.length) c8)) := by
      refine Far.setCell ?_ (.inl (.inr (.inl rfl))) _
      refine (f7'.out.mono (fun i h => .inl h)).trans (S2 := fun i => some i = (Value.slice A L.length cc).ownBlock) ⟨hg8.out.os, hg8.out.tape, hg8.out.output, hs8, fun i hlt hn => hg8.out.block i hlt (fun e => hn e)⟩ (fun i h => .inl (.inr (.inr (ho.out i h.symm).1)))
    refine (hPo.out _ _ _).2 (.inl ⟨rfl, ⟨?_, ?_, _, blk_put hv8.out 0 _ rfl, ?_, ?_⟩, ?_, ?_⟩)
    · exact hi1.out.trans hfar8 (fun i h => by rcases h with e | e | e; exact .inl (.inr (.inl e)); exact .inl (.inr (.inr e)); exact .inr (by omega))
    · refine hR7.out.stay (S := fun i => i = w2.heap.size ∨ w3.heap.size + 2 ≤ i) ?_ (fun k hk e => by have := hlow k hk; omega)
      refine Far.setCell ?_ (.inl (.inl rfl)) _
      exact ⟨hg8.out.os, hg8.out.tape, hg8.out.output, hs8, fun i hlt hn => hg8.out.block i hlt (fun e => hn (.inr (ho.out i e.symm).1))⟩
    · rw [List.flatMap_append, List.flatMap_singleton, hpB.out, ← hL.out]
      exact Kd.R_mono (Kd.R_far (Kd.R_tight rfl ho8.out) (fun k hk => by have := (hown k hk.symm).1; show k ≠ w2.heap.size; omega) _) (fun _ _ => trivial)
    · intro i hi
      have := hown i hi
      refine ⟨this.1, ?_⟩
      rw [size_setCell']
      exact this.2
    · rw [size_setCell']
      omega
    · intro i hi
      refine hblk i ?_ ?_ ?_ ?_
      · rcases hi with h | h | h | h <;> omega
      · rcases hi with h | h | h | h <;> omega
      · rcases hi with h | h | h | h <;> omega
      · intro j hj
        have := ho.out j hj
        rcases hi with h | h | h | h <;> omega
  case done =>
    rintro Bd W ⟨hi1, hi2, v, hv, hrow, ho⟩ hK
    have kv := hbox hv
    have hzW := hi1.size
    obtain ⟨L, hL⟩ : ∃ L, L = (pcs (s * n + f) m).flatMap (pieceB own B f0 f1 f2) := ⟨_, rfl⟩
    rw [← hL] at hrow
    have hR2 : RB (W.putObj w3.heap.size (.deferred none)) w3.heap.size (fun _ => True) v L :=
      Kd.R_mono (Kd.R_step (Kd.R_tight rfl hrow) (fun i hi hlt => World.putObj_heap_other (fun e => by have := (ho i hi.symm).1; omega))) (fun _ _ => trivial)
    have hl2 : Far (fun i => i = b3 ∨ i = a.g ∨ i = w2.heap.size) w3 (W.putObj w3.heap.size (.deferred none)) := hi1.putObj (.inr (by omega)) _
    have hm2 : Ram (W.putObj w3.heap.size (.deferred none)) base a own F t B := hi2.stay ((Far.refl (fun i => i = w3.heap.size) W).putObj (.inl rfl) _) (fun k hk e => by have := hlow k hk; omega)
    obtain ⟨A, cc, rfl⟩ := Kd.R_slice hrow
    replace hR2 := Aside0.mk hR2
    replace hl2 := Aside0.mk hl2
    replace hm2 := Aside0.mk hm2
    replace hK := Aside0.mk hK
    replace hL := Aside0.mk hL
    clear hrow ho hi1 hv hi2
    gi_wp2
    refine ⟨by simp, .inl ⟨_, _, rfl, run_takeDeferred hK.out, ?_⟩⟩
    exact ⟨_, results_tmp2 rfl _ _ _, A, cc, by rw [← hL.out]; rfl, by rw [← hL.out]; exact Kd.R_lower hR2.out (by omega), hm2.out, (Far.of_below hb4.out).trans hl2.out (fun i h => by rcases h with e | e | e; exact .inr (by omega); exact .inl e; exact .inr (by omega))⟩

end Go.Proofs.Ytejeehcmcadmcaa.Hand
