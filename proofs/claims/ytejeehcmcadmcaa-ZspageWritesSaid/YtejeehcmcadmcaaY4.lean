/- zspage.Write, walked. -/
import Derived.Test.YtejeehcmcadmcaaY3
namespace Go.Proofs.Ytejeehcmcadmcaa.Hand
set_option linter.unusedVariables false
set_option linter.unusedSimpArgs false
open Go.RowKit Go.Proofs.Ytejeehcmcadmcaa.R Go.Proofs.YtejeehcmcadmcaaW.PrintWords Go.Proofs.YtejeehcmcadmcaaW.PrintLast Go.Proofs.YtejeehcmcadmcaaW.PrintMore

set_option maxHeartbeats 8000000 in
set_option maxRecDepth 100000 in
theorem zwrite_no' (a0 a1 a2 : Int) (r A : Option Addr) (len c : Nat) (Ab : Option Addr) (lb cb : Nat) (w : World)
    (hT : ∀ W, Below w.heap.size w W → Calls Try.prog 21 #[.pointer r, .slice A len c, .int .i64 a0, .int .i64 a1, .int .i64 a2, .int .i64 lb] W fun e w' => e = .returned (.bool false) ∧ Below W.heap.size W w') :
    Calls Try.prog 14 #[.pointer r, .slice A len c, .int .i64 a0, .int .i64 a1, .int .i64 a2, .slice Ab lb cb] w fun e w' => e = .returned (.bool false) ∧ Below w.heap.size w w' := by
  have hT' := hT (((w.alloc (.cells #[.pointer r] 32 (0, 0))).alloc (.cells #[.slice A len c] 33 (0, 0))).alloc (.cells #[.slice Ab lb cb] 36 (0, 0))) (below_alloc (below_alloc (below_alloc (Below.refl _ _) _) _) _)
  replace hT' := Aside0.mk hT'
  clear hT
  go_enter Try.func14, Try.ntmps14
  go_wp2_with (go_at_call 21; refine hT'.out.mono ?_; rintro e w2 ⟨rfl, hb2⟩; replace hb2 := Aside0.mk hb2)
  go_returns
  exact ⟨rfl, (below_alloc (below_alloc (below_alloc (Below.refl _ _) _) _) _).trans (Below_low hb2.out (by rw [World.size_alloc, World.size_alloc, World.size_alloc]; omega))⟩

/-- What a piece writes; what is left. -/
def stepW (own : List Int) (f0 f1 f2 : Int) (s : List Int × List Int) (p : S28) : List Int × List Int := (wrB own s.1 (fr f0 f1 f2 p.f0) p.f1 (s.2.take p.f2.toNat), s.2.drop p.f2.toNat)
theorem stepW_snd (own : List Int) (f0 f1 f2 : Int) : ∀ (ps : List S28) (s : List Int × List Int), (ps.foldl (stepW own f0 f1 f2) s).2 = s.2.drop (ps.map (fun p => p.f2.toNat)).sum
  | [], s => by simp
  | p :: ps, s => by
    rw [List.foldl_cons, stepW_snd own f0 f1 f2 ps]
    simp [stepW, List.drop_drop]
theorem pcs_sum (a m : Nat) (h : m ≤ 4096) : ((pcs a m).map (fun p => p.f2.toNat)).sum = m := by
  unfold pcs
  split
  · simp; omega
  · split
    · simp [one]
    · simp [one]; omega
/-- The state between two rounds. -/
structure WrI (w3 : World) (b3 bb base : Nat) (a : RA) (own F : List Int) (t : Int) (gm gf : Nat) (s : List Int × List Int) (W : World) : Prop where
  far : Far (fun i => i = b3 ∨ i = a.g ∨ i = a.b ∨ i = bb) w3 W
  ram : Ram W base a own F t s.1
  gd : Gd own F s.1 gm gf
  by_ : isBytes s.2
  row : ∃ A c, W.heap[bb]? = some (.cells #[.slice A s.2.length c] 36 (0, 0)) ∧ Kd.C (Kd.int .u8) W A s.2.length s.2 ∧ s.2.length ≤ c ∧ ∀ ad, A = some ad → 0 < s.2.length → ad.block < base
theorem WrI.go {w3 W W' : World} {b3 bb base : Nat} {a : RA} {own F : List Int} {t : Int} {gm gf : Nat} {s : List Int × List Int} (h : WrI w3 b3 bb base a own F t gm gf s W)
    (f : Far (fun i => i = b3 ∨ i = w3.heap.size ∨ i = w3.heap.size + 1) W W') (ho : bb < w3.heap.size) (hob : bb ≠ b3) (hR : ∀ k, Rown a k → k < w3.heap.size ∧ k ≠ b3) (h3 : b3 < w3.heap.size) (hb3 : base ≤ b3) : WrI w3 b3 bb base a own F t gm gf s W' := by
  obtain ⟨A, c, h1, h2, h4, h5⟩ := h.row
  have hz := h.far.size
  refine ⟨h.far.trans f (fun i hi => by rcases hi with e | e | e; exact .inl (.inl e); exact .inr (by omega); exact .inr (by omega)), h.ram.stay f (fun k hk e => by have := hR k hk; omega), h.gd, h.by_, A, c, f.blk h1 (fun e => by omega), ?_, h4, h5⟩
  exact C_stay h2 f (fun ad e hp he => by have := h5 ad e hp; omega)

attribute [local go_sem] Oper.semAt_some
set_option maxHeartbeats 8000000 in
set_option maxRecDepth 100000 in
theorem zwrite_in (k base : Nat) (a : RA) (own F : List Int) (t : Int) (B : List Int) (s n f : Nat) (rb c : Nat) (f0 f1 f2 : Int) (Ab : Option Addr) (cb : Nat) (l : List Int) (w : World) (h : Ram w base a own F t B) {gm gf : Nat} (hg : Gd own F B gm gf)
    (hr : w.heap[rb]? = some (.cells (l3 f0 f1 f2) 3 (0, 0))) (hm : mayB (s : Int) (n : Int) (f : Int) (l.length : Int) = true) (hth : thereB own f0 f1 f2 (s : Int) (n : Int) (f : Int) (l.length : Int) = true) (hrg : rb ≠ a.g) (hrb : rb ≠ a.b)
    (hC : Kd.C (Kd.int .u8) w Ab l.length l) (hcb : l.length ≤ cb) (hA : ∀ ad, Ab = some ad → 0 < l.length → ad.block < base) (hby : isBytes l) :
    CallsIn Fence.wide k Try.prog 14 #[.pointer (some ⟨a.g, 0, none⟩), .slice (some ⟨rb, 0, none⟩) 3 c, .int .i64 s, .int .i64 n, .int .i64 f, .slice Ab l.length cb] w fun e w' => e = .returned (.bool true) ∧ Ram w' base a own F t ((pcs (s * n + f) l.length).foldl (stepW own f0 f1 f2) (B, l)).1 ∧ Far (fun i => i = a.g ∨ i = a.b) w w' := by
  obtain ⟨m, hml⟩ : ∃ m, m = l.length := ⟨_, rfl⟩
  rw [← hml] at hm hth hC hcb hA ⊢
  have hmm := of_decide_eq_true hm
  replace hm := Aside0.mk hmm
  clear hmm
  have q0 := blk_new w (.cells #[.pointer (some ⟨a.g, 0, none⟩)] 32 (0, 0))
  have q1 := blk_new (w.alloc (.cells #[.pointer (some ⟨a.g, 0, none⟩)] 32 (0, 0))) (.cells #[.slice (some ⟨rb, 0, none⟩) 3 c] 33 (0, 0))
  have r2 := blk_new ((w.alloc (.cells #[.pointer (some ⟨a.g, 0, none⟩)] 32 (0, 0))).alloc (.cells #[.slice (some ⟨rb, 0, none⟩) 3 c] 33 (0, 0))) (.cells #[.slice Ab m cb] 36 (0, 0))
  have r0 := blk_alloc (blk_alloc q0 (.cells #[.slice (some ⟨rb, 0, none⟩) 3 c] 33 (0, 0))) (.cells #[.slice Ab m cb] 36 (0, 0))
  have r1 := blk_alloc q1 (.cells #[.slice Ab m cb] 36 (0, 0))
  rw [World.size_alloc] at r1
  rw [World.size_alloc, World.size_alloc] at r2
  have hb := below_alloc (below_alloc (below_alloc (Below.refl _ w) (.cells #[.pointer (some ⟨a.g, 0, none⟩)] 32 (0, 0))) (.cells #[.slice (some ⟨rb, 0, none⟩) 3 c] 33 (0, 0))) (.cells #[.slice Ab m cb] 36 (0, 0))
  have hz : (((w.alloc (.cells #[.pointer (some ⟨a.g, 0, none⟩)] 32 (0, 0))).alloc (.cells #[.slice (some ⟨rb, 0, none⟩) 3 c] 33 (0, 0))).alloc (.cells #[.slice Ab m cb] 36 (0, 0))).heap.size = w.heap.size + 3 := by rw [World.size_alloc, World.size_alloc, World.size_alloc]
  have hT := there_any base a own F t B (s : Int) (n : Int) (f : Int) (m : Int) rb c f0 f1 f2 _ (h.below hb) (blk_below hr hb) (by omega) (by have := hm.out; omega)
  rw [hth] at hT
  have hall : ∀ p ∈ pcs (s * n + f) m, fine own f0 f1 f2 p = true := by
    unfold thereB at hth
    rw [show ((s : Int) * (n : Int) + (f : Int)).toNat = s * n + f by rw [← Int.natCast_mul]; omega, Int.toNat_natCast] at hth
    have h2 := (Bool.and_eq_true_iff.1 hth).2
    exact List.all_eq_true.1 h2
  replace hall := Aside0.mk hall
  replace hml := Aside0.mk hml
  replace hT := Aside0.mk hT
  replace h := Aside0.mk h
  replace hr := Aside0.mk hr
  replace r0 := Aside0.mk r0
  replace r1 := Aside0.mk r1
  replace hb := Aside0.mk hb
  replace hz := Aside0.mk hz
  replace hg := Aside0.mk hg
  replace hC := Aside0.mk hC
  replace hA := Aside0.mk hA
  replace hby := Aside0.mk hby
  replace hcb := Aside0.mk hcb
  replace r2 := Aside0.mk r2
  clear q0 q1 hth
  refine callsIn_of_wp_marks Try.func14 rfl trivial ?_ rfl
  simp only [Try.ntmps14, List.size_toArray, List.length_cons, List.length_nil, Nat.reduceAdd, Nat.reduceSub, Array.replicate_succ, Array.replicate_zero, List.push_toArray, List.append_toArray, List.nil_append, List.cons_append]
  gi_wp2_with (refine ⟨trivial, (fun h => (by cases h)), ?_⟩; first | (gi_at_call 21; refine (callsIn_wide.2 hT.out).mono ?_; rintro e w2 ⟨rfl, hd⟩; have kb2 := hbox (blk_below r2.out hd); have hb2 := Aside0.mk hd; clear hd) | (gi_at_call 17; refine (callsIn_wide.2 (mk_calls (s : Int) (n : Int) (f : Int) (m : Int) w2)).mono ?_; rintro e w3 ⟨b0, b1, b2, b3, rfl, z0, z1, z2, z3, z4, hb3⟩; replace z0 := Aside0.mk z0; replace z1 := Aside0.mk z1; replace z2 := Aside0.mk z2; replace z3 := Aside0.mk z3; replace z4 := Aside0.mk z4; replace hb3 := Aside0.mk hb3))
  have e2 := hb2.out.size
  have e3 := hb3.out.size
  have ez := hz.out
  have e4 := z4.out
  have e5 := blk_lt z3.out
  have hb4 : Below w.heap.size w w3 := (hb.out.trans (Below_low hb2.out (by omega))).trans (Below_low hb3.out (by omega))
  have R0 := (h.out.below hb4)
  have G6 := blk_below (blk_below r0.out hb2.out) hb3.out
  have G7 := blk_below (blk_below r1.out hb2.out) hb3.out
  have G8 := blk_below (blk_below r2.out hb2.out) hb3.out
  have GR := blk_below hr.out hb4
  have hlow := fun k (hk : Rown a k) => (h.out.own_lt k hk)
  have hrl := blk_lt hr.out
  have hgl := hlow a.g (.inl rfl)
  have hbl := hlow a.b (.inr (.inl rfl))
  have hfW : ∀ W, Far (fun i => i = b3 ∨ i = a.g ∨ i = a.b ∨ i = w.heap.size + 1 + 1) w3 W → W.heap[w.heap.size]? = some (.cells #[.pointer (some ⟨a.g, 0, none⟩)] 32 (0, 0)) ∧ W.heap[w.heap.size + 1]? = some (.cells #[.slice (some ⟨rb, 0, none⟩) 3 c] 33 (0, 0)) ∧ W.heap[rb]? = some (.cells (l3 f0 f1 f2) 3 (0, 0)) := fun W hf =>
    ⟨hf.blk G6 (fun e => by omega), hf.blk G7 (fun e => by omega), hf.blk GR (fun e => by omega)⟩
  have hgo : ∀ k, Rown a k → k < w3.heap.size ∧ k ≠ b3 := fun k hk => by have := hlow k hk; omega
  replace hgo := Aside0.mk hgo
  replace hfW := Aside0.mk hfW
  have ha2 : s * n + f ≤ 2000000 := by
    have h1 := hm.out
    have h2 : s * n ≤ 4096 * 255 := Nat.mul_le_mul (by omega) (by omega)
    omega
  have hm4 : m ≤ 4096 := by have := hm.out; omega
  have hCW := Kd.C_below hC.out hb4
  clear G6 G7 GR
  replace hCW := Aside0.mk hCW
  replace R0 := Aside0.mk R0
  replace hb4 := Aside0.mk hb4
  replace G8 := Aside0.mk G8
  refine range_some (all := pcs (s * n + f) m) (T := fun i => i = b3) (encs := fun x => #[enc3 x]) (gf := 24) (lb := #[.pointer (some ⟨b0, 0, none⟩), .pointer (some ⟨b1, 0, none⟩), .pointer (some ⟨b2, 0, none⟩), .pointer (some ⟨b3, 0, none⟩)]) rfl (enters_of Try.func24 (by kernel_rfl) rfl) (fun _ => rfl) (fun i e => by rw [e]; omega) ?seq (fun pre Bd W => WrI w3 b3 (w.heap.size + 1 + 1) base a own F t gm gf (pre.foldl (stepW own f0 f1 f2) (B, l)) W) ?sIs ?s0 (fun pre W => False) (fun _ _ _ h => h.elim) (fun pre x Bd a' W => ∃ pb, (w3.heap.size + 2 ≤ pb ∧ pb < W.heap.size ∧ Bd ≤ pb) ∧ W.heap[pb]? = some (.cells #[.int .i64 x.f0, .int .i64 x.f1, .int .i64 x.f2] 29 (0, 0)) ∧ a' = ⟨#[.pointer (some ⟨a.g, 0, none⟩), .slice (some ⟨rb, 0, none⟩) 3 c, .int .i64 s, .int .i64 n, .int .i64 f, .slice Ab m cb, .pointer (some ⟨w.heap.size, 0, none⟩), .pointer (some ⟨w.heap.size + 1, 0, none⟩), undef, undef, undef, .pointer (some ⟨w.heap.size + 1 + 1, 0, none⟩), .bool false, .pointer (some ⟨pb, 0, none⟩), .pointer (some ⟨a.g, 0, none⟩), .slice (some ⟨rb, 0, none⟩) 3 c, .int .i64 s, .int .i64 n, .int .i64 f, .slice Ab m cb, .int .i64 m, .bool true, .bool false, .int .i64 s, .int .i64 n, .int .i64 f, .slice Ab m cb, .int .i64 m, .func (.func 24) #[] #[.pointer (some ⟨b0, 0, none⟩), .pointer (some ⟨b1, 0, none⟩), .pointer (some ⟨b2, 0, none⟩), .pointer (some ⟨b3, 0, none⟩)], .agg #[.int .i64 x.f0, .int .i64 x.f1, .int .i64 x.f2], undef, undef, undef, undef, undef, undef, undef, undef, undef, undef, undef, undef, undef, undef, undef, undef, undef], []⟩ ∧ WrI w3 b3 (w.heap.size + 1 + 1) base a own F t gm gf (pre.foldl (stepW own f0 f1 f2) (B, l)) W) ?sAs ?assign ?body ?done (fun _ _ _ _ h => h.elim)
  case seq =>
    intro W hW J Jx hY h0
    exact pieces2_in (w3.heap.size + 1) b0 b1 b2 b3 (k - 1) s n f m J Jx W hY (blk_below z0.out hW) (blk_below z1.out hW) (blk_below z2.out hW) (blk_below z3.out hW) (by have := hm.out; omega) (by have := hm.out; omega) (by have := hm.out; omega) hm4 h0 (by have := hW.size; omega)
  case sIs =>
    rintro pre Bd W W' h1 hfar
    exact h1.go hfar (by omega) (by omega) hgo.out e5 (by omega)
  case s0 =>
    intro W hW hs2
    refine ⟨Far.of_below hW, R0.out.below hW, hg.out, hby.out, Ab, cb, ?_, ?_, ?_, ?_⟩
    · show W.heap[w.heap.size + 1 + 1]? = some (.cells #[.slice Ab l.length cb] 36 (0, 0))
      rw [← hml.out]
      exact blk_below G8.out hW
    · show Kd.C (Kd.int .u8) W Ab l.length l
      rw [← hml.out]
      exact Kd.C_below hCW.out hW
    · show l.length ≤ cb
      rw [← hml.out]
      exact hcb.out
    · intro ad e hp
      exact hA.out ad e (by rw [hml.out]; exact hp)
  case sAs =>
    rintro pre x Bd a' W W' ⟨pb, h1, h2, h3, h4⟩ hfar
    exact ⟨pb, ⟨h1.1, Nat.lt_of_lt_of_le h1.2.1 hfar.size, h1.2.2⟩, hfar.blk h2 (fun e => by omega), h3, h4.go hfar (by omega) (by omega) hgo.out e5 (by omega)⟩
  case assign =>
    rintro pre ⟨x0, x1, x2⟩ Bd W K hI hB hD hK
    simp only [enc3]
    have hpb := blk_new W (.cells #[.int .i64 x0, .int .i64 x1, .int .i64 x2] 29 (0, 0))
    have hbl' : Below W.heap.size W (W.alloc (.cells #[.int .i64 x0, .int .i64 x1, .int .i64 x2] 29 (0, 0))) := (Below.refl _ W).alloc (Nat.le_refl _) _
    replace hpb := Aside0.mk hpb
    replace hbl' := Aside0.mk hbl'
    replace hI := Aside0.mk hI
    gi_wp2
    refine hK _ _ ⟨W.heap.size, ⟨by omega, blk_lt hpb.out, hB⟩, hpb.out, rfl, hI.out.go (Far.of_below hbl'.out) (by omega) (by omega) hgo.out e5 (by omega)⟩ hbl'.out
  case body =>
    rintro pre x Bd a' W ⟨rest, hpl⟩ ⟨pb, h1, h2, rfl, hI⟩ hB hD
    have hx : x ∈ pcs (s * n + f) m := by rw [hpl]; simp
    obtain ⟨p0, p1, p2, p3, p4⟩ := pcs_ok hx ha2 hm4
    obtain ⟨g6, g7, gr⟩ := hfW.out W hI.far
    have kx0 : W.cell? ⟨pb, 0, none⟩ = some (.int .i64 x.f0) := (blk_cell h2 0).trans rfl
    have kx1 : W.cell? ⟨pb, 1, none⟩ = some (.int .i64 x.f1) := (blk_cell h2 1).trans rfl
    have kx2 : W.cell? ⟨pb, 2, none⟩ = some (.int .i64 x.f2) := (blk_cell h2 2).trans rfl
    have k6 := hbox g6
    have k7 := hbox g7
    have hf3 : x.f0 < 3 := by
      have := hall.out x hx
      unfold fine at this
      exact (of_decide_eq_true this).1
    obtain ⟨y, hy⟩ : ∃ y : Nat, x.f0 = (y : Int) := ⟨x.f0.toNat, by omega⟩
    have hy3 : y < 3 := by omega
    have c5 : decide (y < 3) = true := decide_eq_true hy3
    have hy0 : (0 : Int) ≤ (y : Int) := by omega
    have hy4 : (y : Int) < 3 := by omega
    have kr : W.cell? ⟨rb, y, none⟩ = some (.int .i64 (fr f0 f1 f2 x.f0)) := by
      rw [blk_cell gr y, hy]
      match y, hy3 with
      | 0, _ => rfl
      | 1, _ => rfl
      | 2, _ => rfl
    rw [hy] at kx0
    have hsn := stepW_snd own f0 f1 f2 pre (B, l)
    have hsm := pcs_sum (s * n + f) m hm4
    rw [hpl, List.map_append, List.map_cons, List.sum_append, List.sum_cons] at hsm
    have hstep : (pre ++ [x]).foldl (stepW own f0 f1 f2) (B, l) = stepW own f0 f1 f2 (pre.foldl (stepW own f0 f1 f2) (B, l)) x := by rw [List.foldl_append]; rfl
    rw [hstep]
    obtain ⟨st, hst⟩ : ∃ st, st = pre.foldl (stepW own f0 f1 f2) (B, l) := ⟨_, rfl⟩
    rw [← hst] at hI hsn ⊢
    clear hstep
    obtain ⟨B', l'⟩ := st
    obtain ⟨hi1, hi2, hi3, hi4, A', c', hv, hC', hcc, hA'⟩ := hI
    dsimp only at hi2 hi3 hi4 hv hC' hcc hA' hsn
    have hd2 : x.f2.toNat ≤ l'.length := by
      rw [hsn, List.length_drop]
      have := hml.out
      omega
    obtain ⟨d, hd⟩ : ∃ d : Nat, x.f2 = (d : Int) := ⟨x.f2.toNat, by omega⟩
    rw [hd, Int.toNat_natCast] at hd2
    rw [hd] at kx2
    obtain ⟨z, hz2⟩ : ∃ z, z = fr f0 f1 f2 x.f0 := ⟨_, rfl⟩
    rw [← hz2] at kr
    obtain ⟨n', hn'⟩ : ∃ n', n' = l'.length := ⟨_, rfl⟩
    rw [← hn'] at hv hd2
    have hs1 : stepW own f0 f1 f2 (B', l') x = (wrB own B' z x.f1 (l'.take d), l'.drop d) := by
      show (wrB own B' (fr f0 f1 f2 x.f0) x.f1 (l'.take x.f2.toNat), l'.drop x.f2.toNat) = _
      rw [← hz2, hd, Int.toNat_natCast]
    rw [hs1]
    obtain ⟨i5, hi5, hs5⟩ := Option.map_eq_some_iff.1 size5
    have hcut := cut_to 36 5 .i64 Try.underlying36 hi5 A' n' c' (d : Int) (by omega) (by omega) (by omega)
    have hcut2 := cut_from 36 5 .i64 Try.underlying36 hi5 1 hs5 A' n' c' (d : Int) (by omega) (by omega)
    rw [Int.toNat_natCast] at hcut hcut2
    obtain ⟨A2, hA2⟩ : ∃ A2, A2 = (if c' = d then A' else A'.map (·.add (d * 1))) := ⟨_, rfl⟩
    rw [← hA2] at hcut2
    have hCt := Kd.C_take hC' (m := d) (by omega)
    have hCd := Kd.C_drop hC' (m := d) (c := c') (by omega) hcc
    have hCd' : Kd.C (Kd.int .u8) W A2 (l'.drop d).length (l'.drop d) := by rw [hA2]; exact hCd
    have hA2' : ∀ ad, A2 = some ad → 0 < (l'.drop d).length → ad.block < base := by
      intro ad e hp
      rw [List.length_drop] at hp
      rw [hA2] at e
      split at e
      · exact hA' ad e (by omega)
      · cases A' with
        | none => cases e
        | some a1 =>
          cases e
          have hab : (a1.add (d * 1)).block = a1.block := by simp [Addr.add]; split <;> rfl
          show (a1.add (d * 1)).block < base
          rw [hab]
          exact hA' a1 rfl (by omega)
    have htl : (l'.take d).length = d := by rw [List.length_take]; omega
    have hW := write_any base a own F t B' z x.f1 A' c' (l'.take d) W.drew (hi2.below (below_drew (Below.refl _ _))) hi3 (Kd.C_drew hCt) (by rw [htl]; omega) (fun ad e hp he => by have := hA' ad e (by rw [htl] at hp; omega); omega)
    rw [htl] at hW
    have hgd' := hi3.wr z x.f1 (l'.take d) (hi4.take d)
    have hby' : isBytes (l'.drop d) := hi4.drop d
    obtain ⟨B2, hB2⟩ : ∃ B2, B2 = wrB own B' z x.f1 (l'.take d) := ⟨_, rfl⟩
    rw [← hB2] at hW hgd' ⊢
    have kv := hbox hv
    have hln : (l'.drop d).length = n' - d := by rw [List.length_drop, ← hn']
    obtain ⟨l2, hl2⟩ : ∃ l2, l2 = l'.drop d := ⟨_, rfl⟩
    rw [← hl2] at hln hCd' hA2' hby' ⊢
    have hcc2 : l2.length ≤ c' - d := by omega
    have hzW := hi1.size
    have hlt0 := blk_lt hv
    replace hcc2 := Aside0.mk hcc2
    replace hl2 := Aside0.mk hl2
    replace hln := Aside0.mk hln
    replace hB2 := Aside0.mk hB2
    replace hW := Aside0.mk hW
    replace hgd' := Aside0.mk hgd'
    replace hby' := Aside0.mk hby'
    replace hCd' := Aside0.mk hCd'
    replace hA2' := Aside0.mk hA2'
    replace hA2 := Aside0.mk hA2
    replace hn' := Aside0.mk hn'
    replace hi1 := Aside0.mk hi1
    replace hv := Aside0.mk hv
    replace hst := Aside0.mk hst
    replace hpl := Aside0.mk hpl
    replace hz2 := Aside0.mk hz2
    replace hy := Aside0.mk hy
    replace hd := Aside0.mk hd
    replace h2 := Aside0.mk h2
    have q1 : (0 : Int) ≤ (d : Int) := by omega
    have q2 : (d : Int) ≤ (n' : Int) := by omega
    clear hx p0 p1 p2 p3 p4 g6 g7 gr hf3 hsn hsm hi2 hi3 hi4 hC' hcc hA' hi5 hs5 hCt hCd htl hs1
    refine wpIn_hide (fun Po hPo => ?_)
    refine wpIn_block ?_
    refine wpIn_seq ?_
    generalize hQ : Exit.then _ _ = QQ
    replace hQ := Aside0.mk hQ
    have hQp : ∀ c a a' w, QQ (.panic c) a w → QQ (.panic c) a' w := fun c a a' w h => by
      rw [← hQ.out] at h
      rcases (hPo.out _ _ _).1 h with h | h <;> cases h.1
    refine held_round (S := fun w' : World => w'.cell? ⟨w.heap.size, 0, none⟩ = some (.pointer (some ⟨a.g, 0, none⟩)) ∧ w'.cell? ⟨w.heap.size + 1, 0, none⟩ = some (.slice (some ⟨rb, 0, none⟩) 3 c) ∧ w'.cell? ⟨pb, 0, none⟩ = some (.int .i64 (y : Int)) ∧ w'.cell? ⟨pb, 1, none⟩ = some (.int .i64 x.f1) ∧ w'.cell? ⟨pb, 2, none⟩ = some (.int .i64 (d : Int)) ∧ w'.cell? ⟨rb, y, none⟩ = some (.int .i64 z) ∧ w'.cell? ⟨w.heap.size + 1 + 1, 0, none⟩ = some (.slice A' n' c')) (fun h => ?hq) (by simp) (by kernel_rfl) ⟨k6, k7, kx0, kx1, kx2, kr, kv⟩ (fun hHeld => ?_)
    case hq =>
      obtain ⟨a, w', h⟩ := h
      rw [← hQ.out] at h
      rcases (hPo.out _ _ _).1 h with h | h <;> cases h.1
    refine wpAnyH_take (i := 0) (oi := { dst := some 30, op := Op.load 32 (Operand.tmp 6), type := 32, pos := "zspage.go:84", after := #[], guard := none }) (v := ?_) rfl (by kernel_rfl) (by kernel_rfl) (by kernel_rfl) (fun _ _ _ h => hQp _ _ _ _ h) (Or.inl ⟨by rfl, ?_⟩) (by assumption) ?_
    rotate_left
    · (intro wq hSw; (try dsimp only at hSw); go_simp; try (with_reducible rfl))
    try simp only [Act.put, List.setIfInBounds_toArray, List.set_cons_zero, List.set_cons_succ]
    refine wpAnyH_take (i := 1) (oi := { dst := some 31, op := Op.load 33 (Operand.tmp 7), type := 33, pos := "zspage.go:84", after := #[], guard := none }) (v := ?_) rfl (by kernel_rfl) (by kernel_rfl) (by kernel_rfl) (fun _ _ _ h => hQp _ _ _ _ h) (Or.inl ⟨by rfl, ?_⟩) (by assumption) ?_
    rotate_left
    · (intro wq hSw; (try dsimp only at hSw); go_simp; try (with_reducible rfl))
    try simp only [Act.put, List.setIfInBounds_toArray, List.set_cons_zero, List.set_cons_succ]
    refine wpAnyH_take (i := 2) (oi := { dst := some 32, op := Op.fieldAddr 29 (Operand.tmp 13) 0, type := 0, pos := "zspage.go:84", after := #[], guard := none }) (v := ?_) rfl (by kernel_rfl) (by kernel_rfl) (by kernel_rfl) (fun _ _ _ h => hQp _ _ _ _ h) (Or.inl ⟨by rfl, ?_⟩) (by assumption) ?_
    rotate_left
    · (intro wq hSw; (try dsimp only at hSw); go_simp; try (with_reducible rfl))
    try simp only [Act.put, List.setIfInBounds_toArray, List.set_cons_zero, List.set_cons_succ]
    refine wpAnyH_take (i := 3) (oi := { dst := some 33, op := Op.load 3 (Operand.tmp 32), type := 3, pos := "zspage.go:84", after := #[{ on := 2, ground := Ground.data }], guard := none }) (v := ?_) rfl (by kernel_rfl) (by kernel_rfl) (by kernel_rfl) (fun _ _ _ h => hQp _ _ _ _ h) (Or.inl ⟨by rfl, ?_⟩) (by assumption) ?_
    rotate_left
    · (intro wq hSw; (try dsimp only at hSw); go_simp; try (with_reducible rfl))
    try simp only [Act.put, List.setIfInBounds_toArray, List.set_cons_zero, List.set_cons_succ]
    refine wpAnyH_take (i := 4) (oi := { dst := some 34, op := Op.indexAddr 33 (Operand.tmp 31) (Operand.tmp 33), type := 0, pos := "zspage.go:84", after := #[{ on := 1, ground := Ground.data }, { on := 3, ground := Ground.data }], guard := none }) (v := ?_) rfl (by kernel_rfl) (by kernel_rfl) (by kernel_rfl) (fun _ _ _ h => hQp _ _ _ _ h) (Or.inl ⟨by rfl, ?_⟩) (by assumption) ?_
    rotate_left
    · (intro wq hSw; (try dsimp only at hSw); go_simp; try (with_reducible rfl))
    try simp only [Act.put, List.setIfInBounds_toArray, List.set_cons_zero, List.set_cons_succ]
    refine wpAnyH_take (i := 5) (oi := { dst := some 35, op := Op.load 3 (Operand.tmp 34), type := 3, pos := "zspage.go:84", after := #[{ on := 4, ground := Ground.data }], guard := none }) (v := ?_) rfl (by kernel_rfl) (by kernel_rfl) (by kernel_rfl) (fun _ _ _ h => hQp _ _ _ _ h) (Or.inl ⟨by rfl, ?_⟩) (by assumption) ?_
    rotate_left
    · (intro wq hSw; (try dsimp only at hSw); go_simp; try (with_reducible rfl))
    try simp only [Act.put, List.setIfInBounds_toArray, List.set_cons_zero, List.set_cons_succ]
    refine wpAnyH_take (i := 6) (oi := { dst := some 36, op := Op.fieldAddr 29 (Operand.tmp 13) 1, type := 0, pos := "zspage.go:84", after := #[], guard := none }) (v := ?_) rfl (by kernel_rfl) (by kernel_rfl) (by kernel_rfl) (fun _ _ _ h => hQp _ _ _ _ h) (Or.inl ⟨by rfl, ?_⟩) (by assumption) ?_
    rotate_left
    · (intro wq hSw; (try dsimp only at hSw); go_simp; try (with_reducible rfl))
    try simp only [Act.put, List.setIfInBounds_toArray, List.set_cons_zero, List.set_cons_succ]
    refine wpAnyH_take (i := 7) (oi := { dst := some 37, op := Op.load 3 (Operand.tmp 36), type := 3, pos := "zspage.go:84", after := #[{ on := 6, ground := Ground.data }], guard := none }) (v := ?_) rfl (by kernel_rfl) (by kernel_rfl) (by kernel_rfl) (fun _ _ _ h => hQp _ _ _ _ h) (Or.inl ⟨by rfl, ?_⟩) (by assumption) ?_
    rotate_left
    · (intro wq hSw; (try dsimp only at hSw); go_simp; try (with_reducible rfl))
    try simp only [Act.put, List.setIfInBounds_toArray, List.set_cons_zero, List.set_cons_succ]
    refine wpAnyH_take (i := 8) (oi := { dst := some 38, op := Op.load 36 (Operand.tmp 11), type := 36, pos := "zspage.go:84", after := #[], guard := none }) (v := ?_) rfl (by kernel_rfl) (by kernel_rfl) (by kernel_rfl) (fun _ _ _ h => hQp _ _ _ _ h) (Or.inl ⟨by rfl, ?_⟩) (by assumption) ?_
    rotate_left
    · (intro wq hSw; (try dsimp only at hSw); go_simp; try (with_reducible rfl))
    try simp only [Act.put, List.setIfInBounds_toArray, List.set_cons_zero, List.set_cons_succ]
    refine wpAnyH_take (i := 9) (oi := { dst := some 39, op := Op.fieldAddr 29 (Operand.tmp 13) 2, type := 0, pos := "zspage.go:84", after := #[], guard := none }) (v := ?_) rfl (by kernel_rfl) (by kernel_rfl) (by kernel_rfl) (fun _ _ _ h => hQp _ _ _ _ h) (Or.inl ⟨by rfl, ?_⟩) (by assumption) ?_
    rotate_left
    · (intro wq hSw; (try dsimp only at hSw); go_simp; try (with_reducible rfl))
    try simp only [Act.put, List.setIfInBounds_toArray, List.set_cons_zero, List.set_cons_succ]
    refine wpAnyH_take (i := 10) (oi := { dst := some 40, op := Op.load 3 (Operand.tmp 39), type := 3, pos := "zspage.go:84", after := #[{ on := 9, ground := Ground.data }], guard := none }) (v := ?_) rfl (by kernel_rfl) (by kernel_rfl) (by kernel_rfl) (fun _ _ _ h => hQp _ _ _ _ h) (Or.inl ⟨by rfl, ?_⟩) (by assumption) ?_
    rotate_left
    · (intro wq hSw; (try dsimp only at hSw); go_simp; try (with_reducible rfl))
    try simp only [Act.put, List.setIfInBounds_toArray, List.set_cons_zero, List.set_cons_succ]
    refine wpAnyH_take (i := 11) (oi := { dst := some 41, op := Op.slice 36 (Operand.tmp 38) none (some (Operand.tmp 40)) none, type := 36, pos := "zspage.go:84", after := #[{ on := 8, ground := Ground.data }, { on := 10, ground := Ground.data }], guard := none }) (v := ?_) rfl (by kernel_rfl) (by kernel_rfl) (by kernel_rfl) (fun _ _ _ h => hQp _ _ _ _ h) (Or.inl ⟨by rfl, ?_⟩) (by assumption) ?_
    rotate_left
    · (intro wq hSw; (try dsimp only at hSw); go_simp; try (with_reducible rfl))
    try simp only [Act.put, List.setIfInBounds_toArray, List.set_cons_zero, List.set_cons_succ]
    refine wpAnyH_ready (rs := [12]) (by kernel_rfl) (by simp) ?_
    refine AllReadyH.cons (o := { dst := some 42, op := Op.call { callee := Callee.value (Operand.func 20), args := #[Operand.tmp 30, Operand.tmp 35, Operand.tmp 37, Operand.tmp 41], argTypes := #[32, 3, 3, 36] }, type := 4, pos := "zspage.go:84", after := #[{ on := 0, ground := Ground.data }, { on := 5, ground := Ground.data }, { on := 7, ground := Ground.data }, { on := 11, ground := Ground.data }], guard := none }) rfl (fun K hK => ?_) ?_
    rotate_left
    · exact AllReadyH.nil
    go_simp
    go_at_call 20
    refine hW.out.mono ?_
    rintro e w7 ⟨rfl, hR7, hf7⟩
    have hf7' : ∀ p u, W.cell? p = some u → p.block ≠ a.g → p.block ≠ a.b → w7.cell? p = some u := fun p u hp h1 h2 => cell_far hf7 (fun e => by rcases e with e | e; exact h1 e; exact h2 e) hp
    have S1 := hf7' _ _ k6 (fun e => by have e' : w.heap.size = a.g := e; omega) (fun e => by have e' : w.heap.size = a.b := e; omega)
    have S2 := hf7' _ _ k7 (fun e => by have e' : w.heap.size + 1 = a.g := e; omega) (fun e => by have e' : w.heap.size + 1 = a.b := e; omega)
    have S3 := hf7' _ _ kx0 (fun e => by have e' : pb = a.g := e; omega) (fun e => by have e' : pb = a.b := e; omega)
    have S4 := hf7' _ _ kx1 (fun e => by have e' : pb = a.g := e; omega) (fun e => by have e' : pb = a.b := e; omega)
    have S5 := hf7' _ _ kx2 (fun e => by have e' : pb = a.g := e; omega) (fun e => by have e' : pb = a.b := e; omega)
    have S6 := hf7' _ _ kr (fun e => hrg e) (fun e => hrb e)
    have S7 := hf7' _ _ kv (fun e => by have e' : w.heap.size + 1 + 1 = a.g := e; omega) (fun e => by have e' : w.heap.size + 1 + 1 = a.b := e; omega)
    clear hf7'
    replace hR7 := Aside0.mk hR7
    replace hf7 := Aside0.mk hf7
    refine hK.out _ _ ?_ (fun hHeld => ?_)
    · exact ⟨S1, S2, S3, S4, S5, S6, S7⟩
    clear hK K
    try simp only [Act.put, List.setIfInBounds_toArray, List.set_cons_zero, List.set_cons_succ]
    refine wpAnyH_done (by kernel_rfl) ?_ _
    rw [← hQ.out]
    clear hQp hQ QQ hHeld
    try simp only [Exit.then]
    have f7' : Far (fun k => k = a.g ∨ k = a.b) W w7 := (Far.drew (Far.refl (fun k => k = a.g ∨ k = a.b) W)).then_ hf7.out
    have hv7 := f7'.blk hv.out (fun e => by omega)
    have fv := blk_frozen hv7 0
    generalize hQ : Exit.inBlock 1 _ = QQ
    refine region_round (fun h => ?hq2) ?hd ?_
    case hq2 =>
      obtain ⟨a, w', h⟩ := h
      rw [← hQ] at h
      rcases (hPo.out _ _ _).1 h with h | h <;> cases h.1
    case hd => simp
    replace hQ := Aside0.mk hQ
    replace f7' := Aside0.mk f7'
    replace hv7 := Aside0.mk hv7
    clear S1 S2 S3 S4 S6 k6 k7 kx0 kx1 kx2 kr kv
    go_wp2
    rw [← hQ.out]
    have hz7 := f7'.out.size
    have fset : Far (fun i => i = w.heap.size + 1 + 1) w7 (w7.setCell ⟨w.heap.size + 1 + 1, 0, none⟩ (.slice A2 (n' - d) (c' - d))) := Far.setCell (S := fun i => i = w.heap.size + 1 + 1) (p := ⟨w.heap.size + 1 + 1, 0, none⟩) (Far.refl _ w7) (.inl rfl) _
    refine (hPo.out _ _ _).2 (.inl ⟨rfl, ⟨?_, ?_, hgd'.out, hby'.out, A2, c' - d, ?_, ?_, hcc2.out, hA2'.out⟩, ?_, ?_⟩)
    · exact (hi1.out.trans (f7'.out) (fun i h => by rcases h with e | e; exact .inl (.inr (.inl e)); exact .inl (.inr (.inr (.inl e))))).trans fset (fun i h => .inl (.inr (.inr (.inr h))))
    · exact hR7.out.stay fset (fun k hk e => by have := hlow k hk; omega)
    · show (w7.setCell _ _).heap[w.heap.size + 1 + 1]? = some (.cells #[.slice A2 l2.length (c' - d)] 36 (0, 0))
      rw [hln.out]
      exact blk_put hv7.out 0 _ rfl
    · exact C_stay (C_stay hCd'.out f7'.out (fun ad e hp he => by have := hA2'.out ad e hp; omega)) fset (fun ad e hp he => by have := hA2'.out ad e hp; omega)
    · rw [size_setCell']
      exact hz7
    · intro i hi
      rw [Below.heap_setCell _ _ _ _ (show i ≠ w.heap.size + 1 + 1 by rcases hi with h | h | h | h <;> omega)]
      exact f7'.out.block i (by rcases hi with h | h | h | h <;> omega) (fun e => by rcases hi with h | h | h | h <;> omega)
  case done =>
    rintro Bd W ⟨hi1, hi2, hi3, hi4, hi5⟩ hK
    have hl2 : Far (fun i => i = b3 ∨ i = a.g ∨ i = a.b ∨ i = w.heap.size + 1 + 1) w3 (W.putObj w3.heap.size (.deferred none)) := hi1.putObj (.inr (by omega)) _
    have hm2 := hi2.stay ((Far.refl (fun i => i = w3.heap.size) W).putObj (.inl rfl) (.deferred none)) (fun k hk e => by have := hlow k hk; omega)
    replace hl2 := Aside0.mk hl2
    replace hm2 := Aside0.mk hm2
    replace hK := Aside0.mk hK
    clear hi1 hi2 hi3 hi4 hi5
    gi_wp2
    refine ⟨by simp, .inl ⟨_, _, rfl, run_takeDeferred hK.out, ?_⟩⟩
    exact ⟨_, results_tmp rfl _ _ _, rfl, hm2.out, (Far.of_below hb4.out).trans hl2.out (fun i h => by rcases h with e | e | e | e; exact .inr (by omega); exact .inl (.inl e); exact .inl (.inr e); exact .inr (by omega))⟩

end Go.Proofs.Ytejeehcmcadmcaa.Hand
