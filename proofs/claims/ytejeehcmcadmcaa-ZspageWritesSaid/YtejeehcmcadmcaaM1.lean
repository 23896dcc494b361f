/- ram: the bytes of frames in memory; New, none, Touches, part, walked by hand. -/
import Derived.Test.YtejeehcmcadmcaaFrB
import Derived.Test.YtejeehcmcadmcaaCopyAt
import Derived.Laws.IdiomCopy
import Derived.Lib.SliceRun
namespace Go.Proofs.Ytejeehcmcadmcaa.Hand
set_option linter.unusedVariables false
set_option linter.unusedSimpArgs false
open Go.RowKit Go.Proofs.Ytejeehcmcadmcaa.R Go.Proofs.YtejeehcmcadmcaaW.PrintWords Go.Proofs.YtejeehcmcadmcaaW.PrintLast Go.Proofs.YtejeehcmcadmcaaW.PrintMore

abbrev RB (w : World) (base : Nat) (ok : Nat → Prop) (v : Value) (xs : List Int) : Prop := Kd.R (Kd.int .u8) 5 w base ok v xs
/-- A row of one's own, some cells of which are laid anew. -/
theorem put_row {W : World} (k : IntKind) (base e g at_ cap : Nat) (xs ys : List Int) (ok : Nat → Prop) (HO : (Kd.int k).R e W base ok (.slice (some ⟨g, 0, none⟩) xs.length cap) xs) (hfit : at_ + ys.length ≤ xs.length) :
    (∀ j, j < (encs (Value.int k) ys).length → (W.cell? ⟨g, at_ + j, none⟩).isSome = true) ∧ (∀ j, j < (encs (Value.int k) ys).length → W.frozen? ⟨g, at_ + j, none⟩ = false) ∧
    (Kd.int k).R e (W.setCells g at_ (encs (Value.int k) ys)) base ok (.slice (some ⟨g, 0, none⟩) xs.length cap) (xs.take at_ ++ ys ++ xs.drop (at_ + ys.length)) ∧ Far (fun x => x = g) W (W.setCells g at_ (encs (Value.int k) ys)) := by
  have hown := Kd.own_of_R HO
  rcases hown.2 with ⟨hv, _⟩ | ⟨g', cap', cur, hv, hb, hh, hnc, hcm, hcs, htake⟩
  · cases hv
  injection hv with hv1 _ hv3
  injection hv1 with hv1
  injection hv1 with hv1
  subst hv1
  subst hv3
  have hcs1 : cur.size = cap := by omega
  have hkl : (encs (Value.int k) ys).length = ys.length := encs_length ..
  obtain ⟨cur', h3, h4, h5⟩ := setCells_row (encs (Value.int k) ys) at_ W cur hh (by rw [hkl]; omega)
  obtain ⟨s1, s2, s3, s4⟩ := setCells_same g (encs (Value.int k) ys) at_ W
  have hln : (xs.take at_ ++ ys ++ xs.drop (at_ + ys.length)).length = xs.length := by
    rw [List.length_append, List.length_append, List.length_take, List.length_drop]
    omega
  refine ⟨fun j hj => by rw [cell_of_row W g _ cur e (0, 0) hh]; simp; omega, fun j _ => blk_frozen hh _, Kd.R_of_own ?_ HO.1, ⟨s1, s2, s3, by rw [s4]; exact Nat.le_refl _, fun k' _ hk => setCells_far _ _ k' hk⟩⟩
  rw [hln]
  refine ⟨by rw [encs_length, hln, Nat.mul_one], .inr ⟨g, cap, cur', rfl, hb, h3, hnc, hcm, by rw [h4, hcs], ?_⟩⟩
  have htk : cur.toList.take xs.length = encs (Value.int k) xs := by rw [← htake, Nat.mul_one]
  rw [h5, hkl, encs_append, encs_append, Nat.mul_one]
  have e1 : encs (Value.int k) (xs.take at_) = cur.toList.take at_ := by
    have : encs (Value.int k) (xs.take at_) = (encs (Value.int k) xs).take at_ := by simp [encs, List.map_take]
    rw [this, ← htk, List.take_take, Nat.min_eq_left (by omega)]
  have e2 : encs (Value.int k) (xs.drop (at_ + ys.length)) = (cur.toList.take xs.length).drop (at_ + ys.length) := by
    have : encs (Value.int k) (xs.drop (at_ + ys.length)) = (encs (Value.int k) xs).drop (at_ + ys.length) := by simp [encs, List.map_drop]
    rw [this, ← htk]
  rw [e1, e2]
  have l1 : (cur.toList.take at_).length = at_ := by rw [List.length_take, Array.length_toList]; omega
  rw [List.take_append, List.length_append, l1, hkl, List.take_of_length_le (by rw [List.length_append, l1, hkl]; omega)]
  congr 1
  rw [List.drop_take]

structure RA where
  g : Nat
  f : Nat
  o : Nat
  c0 : Nat
  A1 : Option Addr
  c1 : Nat
  b : Nat
  cb : Nat
structure RP where
  own : List Int
  F : List Int
  t : Int
  B : List Int
  q : Int
/-- The bytes of frames in memory, all made since base. -/
structure RS (w : World) (base : Nat) (a : RA) (s : RP) : Prop where
  blk : w.heap[a.g]? = some (.cells #[.pointer (some ⟨a.f, 0, none⟩), .slice (some ⟨a.b, 0, none⟩) s.B.length a.cb, .int .i64 s.q] 62 (0, 0))
  fs : FS w base a.f s.own s.F s.t a.o a.c0 a.A1 a.c1
  bs : RB w base (fun k => k = a.b) (.slice (some ⟨a.b, 0, none⟩) s.B.length a.cb) s.B
  ge : base ≤ a.g
/-- Its blocks. -/
def Rown (a : RA) (k : Nat) : Prop := k = a.g ∨ k = a.b ∨ Fown a.f a.o a.A1 k
theorem FS.own_typ {w : World} {base g : Nat} {own F : List Int} {t : Int} {o c0 : Nat} {A1 : Option Addr} {c1 : Nat} (h : FS w base g own F t o c0 A1 c1) (k : Nat) (hk : Fown g o A1 k) : ∃ cs T, w.heap[k]? = some (.cells cs T (0, 0)) ∧ (T = 3 ∨ T = 66) := by
  rcases hk with rfl | rfl | ⟨ad, rfl, rfl⟩
  · exact ⟨_, _, h.blk, .inr rfl⟩
  · obtain ⟨cs, hc⟩ := Kd.R_typed h.r0 _ rfl
    exact ⟨_, _, hc, .inl rfl⟩
  · obtain ⟨cs, hc⟩ := Kd.R_typed h.r1 ad.block (by simp [Value.ownBlock])
    exact ⟨_, _, hc, .inl rfl⟩
theorem RS.b_typ {w : World} {base : Nat} {a : RA} {s : RP} (h : RS w base a s) : ∃ cs, w.heap[a.b]? = some (.cells cs 5 (0, 0)) := Kd.R_typed h.bs _ rfl
theorem RS.g_ne_b {w : World} {base : Nat} {a : RA} {s : RP} (h : RS w base a s) : a.g ≠ a.b := by
  obtain ⟨cs, hc⟩ := h.b_typ
  exact blk_ne h.blk hc (by decide)
theorem RS.g_not {w : World} {base : Nat} {a : RA} {s : RP} (h : RS w base a s) : ¬ Fown a.f a.o a.A1 a.g := fun hk => by
  obtain ⟨cs, T, hc, hT⟩ := h.fs.own_typ _ hk
  exact blk_ne h.blk hc (by rcases hT with e | e <;> rw [e] <;> decide) rfl
theorem RS.b_not {w : World} {base : Nat} {a : RA} {s : RP} (h : RS w base a s) : ¬ Fown a.f a.o a.A1 a.b := fun hk => by
  obtain ⟨cs, T, hc, hT⟩ := h.fs.own_typ _ hk
  obtain ⟨cs2, hc2⟩ := h.b_typ
  exact blk_ne hc2 hc (by rcases hT with e | e <;> rw [e] <;> decide) rfl
theorem RS.stay {w w' : World} {base : Nat} {a : RA} {s : RP} {S : Nat → Prop} (h : RS w base a s) (f : Far S w w') (hd : ∀ k, Rown a k → ¬ S k) : RS w' base a s :=
  ⟨f.blk h.blk (hd _ (.inl rfl)), h.fs.stay f (fun k hk => hd k (.inr (.inr hk))), Kd.R_step h.bs (fun k hk hlt => f.block k hlt (by rw [hk]; exact hd _ (.inr (.inl rfl)))), h.ge⟩
theorem RS.below {w w' : World} {base : Nat} {a : RA} {s : RP} (h : RS w base a s) (hb : Below w.heap.size w w') : RS w' base a s := h.stay (S := fun _ => False) (Far.of_below hb) (fun _ _ h => h)
theorem RS.own_lt {w : World} {base : Nat} {a : RA} {s : RP} (h : RS w base a s) (k : Nat) (hk : Rown a k) : base ≤ k ∧ k < w.heap.size := by
  rcases hk with rfl | rfl | hk
  · exact ⟨h.ge, blk_lt h.blk⟩
  · obtain ⟨cs, hc⟩ := h.b_typ
    exact ⟨Kd.R_base h.bs _ rfl, blk_lt hc⟩
  · exact h.fs.own_lt k hk
theorem RS.gt {w : World} {base : Nat} {a : RA} {s : RP} (h : RS w base a s) : base ≤ w.heap.size := h.fs.gt

set_option maxHeartbeats 8000000 in
set_option maxRecDepth 100000 in
theorem none_q (base : Nat) (a : RA) (s : RP) (w : World) (h : RS w base a s) : Calls Try.prog 26 #[.pointer (some ⟨a.g, 0, none⟩)] w fun e w' => e = .returned (.bool false) ∧ w' = w := by
  have k0 : w.cell? ⟨a.g, 0, none⟩ = some (.pointer (some ⟨a.f, 0, none⟩)) := (blk_cell h.blk 0).trans rfl
  clear h
  go_enter Try.func26, Try.ntmps26
  go_wp2
  go_returns
  exact ⟨rfl, rfl⟩
theorem info5 : (Try.prog.info? 5).map (fun i => (i.zero, i.size, i.bytes)) = some (some (.int .u8 0), 1, 1) := by kernel_rfl
set_option maxHeartbeats 8000000 in
set_option maxRecDepth 100000 in
theorem ram_new_no (n : Int) (h : n < 8 ∨ 96 < n) (w : World) : Calls Try.prog 18 #[.int .i64 n] w fun e w' => e = .returned (.tuple #[.pointer none, .int .i64 1]) ∧ w' = w := by
  have hn := fun W => new_no n h W
  clear h
  go_enter Try.func18, Try.ntmps18
  go_wp2_with (go_at_call 25; refine (hn _).mono ?_; rintro e w2 ⟨rfl, rfl⟩)
  go_returns
  exact ⟨rfl, rfl⟩
set_option maxHeartbeats 8000000 in
set_option maxRecDepth 100000 in
theorem ram_new (n : Nat) (h8 : 8 ≤ n) (h96 : n ≤ 96) (w : World) : Calls Try.prog 18 #[.int .i64 (n : Int)] w fun e w' => ∃ a, e = .returned (.tuple #[.pointer (some ⟨a.g, 0, none⟩), .int .i64 0]) ∧ RS w' w.heap.size a ⟨List.replicate n 0, dn n 0, 0, List.replicate (4096 * n) 0, 0⟩ ∧ Below w.heap.size w w' := by
  have hn := fun W => new_calls n h8 h96 W
  have hm : wrap64 ((n : Int) * 4096) = ((4096 * n : Nat) : Int) := by unfold wrap64; omega
  obtain ⟨m, hm2⟩ : ∃ m, m = 4096 * n := ⟨_, rfl⟩
  rw [← hm2] at hm
  have hsz : (wrap64 ((n : Int) * 4096)).toNat * 1 ≤ 281474976710656 := by rw [hm]; omega
  have h0 : 0 ≤ wrap64 ((n : Int) * 4096) := by rw [hm]; omega
  have hmn : (wrap64 ((n : Int) * 4096)).toNat = m := by rw [hm]; exact Int.toNat_natCast m
  replace hmn := Aside0.mk hmn
  clear hm
  replace hsz := Aside0.mk hsz
  replace h0 := Aside0.mk h0
  replace hm2 := Aside0.mk hm2
  clear h8 h96
  go_enter Try.func18, Try.ntmps18
  go_upto_region 4 with (go_at_call 25; refine (hn _).mono ?_; rintro e w2 ⟨f, o, c0, A1, c1, rfl, hs, hb⟩; replace hs := Aside0.mk hs; replace hb := Aside0.mk hb)
  go_wp2_with (first | ((with_reducible refine gate_dst (N := 17) rfl ?_); refine Kd.R_make (Kd.int .u8) (w0 := w) w.heap.size 5 rfl (N := 17) rfl 36 _ _ rfl (wrap64 ((n : Int) * 4096)) rfl rfl Try.underlying36 (.int .u8 0) 1 info5 rfl (by decide) (by decide) 0 (ok := fun _ => True) (okp := fun _ => True) rfl (fun _ hk => hk) trivial h0.out hsz.out hb.out hb.out.size ?_; intro v0 w3 hr hbl hgr hat; rw [hmn.out] at hr; obtain ⟨bb, ho, hoge⟩ := hat; obtain ⟨A0, cb, e0⟩ := Kd.R_slice hr; subst e0; obtain ⟨ad, rfl⟩ : ∃ ad, A0 = some ad := (by cases A0 with | none => simp [Value.ownBlock] at ho | some ad => exact ⟨ad, rfl⟩); obtain ⟨b', rfl⟩ := Kd.R_head hr; obtain rfl : b' = bb := (by simpa [Value.ownBlock] using ho); have hs3 := Aside0.mk (hs.out.stay (S := fun _ => False) ⟨hgr.os, hgr.tape, hgr.output, hgr.size, fun k hk _ => hgr.block k hk (by simp)⟩ (fun _ _ h => h)); clear ho hoge hgr; replace hr := Aside0.mk (Kd.R_mono (Kd.R_tight rfl hr) (fun k hk => Option.some.inj hk : ∀ k, some k = (Value.slice (some ⟨b', 0, none⟩) _ _).ownBlock → k = b')); replace hbl := Aside0.mk hbl))
  go_returns
  have e := hm2.out
  subst e
  refine ⟨⟨w3.heap.size, f, o, c0, A1, c1, b', cb⟩, rfl, ⟨?_, hs3.out.alloc _, Kd.R_alloc hr.out _, hbl.out.size⟩, below_alloc hbl.out _⟩
  have := blk_new w3 (.cells #[.pointer (some ⟨f, 0, none⟩), .slice (some ⟨b', 0, none⟩) (4096 * n) cb, .int .i64 0] 62 (0, 0))
  show _ = some (Obj.cells #[.pointer (some ⟨f, 0, none⟩), .slice (some ⟨b', 0, none⟩) (List.replicate (4096 * n) (0 : Int)).length cb, .int .i64 0] 62 (0, 0))
  rw [List.length_replicate]
  exact this

theorem e4096 (n : Nat) (h : n < 1000) : wrap64 ((n : Int) * 4096) = ((4096 * n : Nat) : Int) := by unfold wrap64; omega
theorem eplus (a b : Nat) (h : a + b < 1000000000) : wrap64 ((a : Int) + (b : Int)) = ((a + b : Nat) : Int) := by unfold wrap64; omega
theorem eless (s : Nat) (h : s ≤ 4096) : wrap64 (4096 - (s : Int)) = ((4096 - s : Nat) : Int) := by unfold wrap64; omega
set_option maxHeartbeats 8000000 in
set_option maxRecDepth 100000 in
theorem part_yes (base : Nat) (a : RA) (s : RP) (n at_ size : Nat) (w : World) (h : RS w base a s) (hn : n < s.own.length) (ho : s.own.getD n 0 ≠ 0) (hf : at_ + size ≤ 4096) (hB : s.B.length = 4096 * s.own.length) (hl : s.own.length ≤ 96) :
    Calls Try.prog 28 #[.pointer (some ⟨a.g, 0, none⟩), .int .i64 (n : Int), .int .i64 (at_ : Int), .int .i64 (size : Int)] w fun e w' => ∃ off c, e = .returned (.tuple #[.slice (some ⟨a.b, off, none⟩) size c, .bool true]) ∧ size ≤ c ∧ (0 < size → off = 4096 * n + at_) ∧ RS w' base a { s with q := wrap64 (s.q + 1) } ∧ Far (fun k => k = a.g) w w' := by
  have hc := (Kd.R_reads' h.bs).2.1
  have k0 : w.cell? ⟨a.g, 0, none⟩ = some (.pointer (some ⟨a.f, 0, none⟩)) := (blk_cell h.blk 0).trans rfl
  have k1 : w.cell? ⟨a.g, 1, none⟩ = some (.slice (some ⟨a.b, 0, none⟩) s.B.length a.cb) := (blk_cell h.blk 1).trans rfl
  have k2 : w.cell? ⟨a.g, 2, none⟩ = some (.int .i64 s.q) := (blk_cell h.blk 2).trans rfl
  have f2 := blk_frozen h.blk 2
  have hO := Aside0.mk (owner_q base a.f s.own s.F s.t a.o a.c0 a.A1 a.c1 (n : Int) w h.fs)
  have hown : ownerOf s.own (n : Int) = s.own.getD n 0 := by unfold ownerOf; rw [if_pos (by omega)]; rfl
  rw [hown] at hO
  have b1 : (s.own.getD n 0 == 0) = false := beq_eq_false_iff_ne.mpr ho
  have d1 : decide ((size : Int) < 0) = false := decide_eq_false (by omega)
  have d2 : decide ((at_ : Int) < 0) = false := decide_eq_false (by omega)
  have d3 : decide ((at_ : Int) > ((4096 - size : Nat) : Int)) = false := decide_eq_false (by omega)
  have d3' : decide (((4096 - size : Nat) : Int) < (at_ : Int)) = false := decide_eq_false (by omega)
  have d3'' : decide (4096 - size < at_) = false := decide_eq_false (by omega)
  obtain ⟨m, hm⟩ : ∃ m, m = 4096 * n := ⟨_, rfl⟩
  obtain ⟨p, hp⟩ : ∃ p, p = m + at_ := ⟨_, rfl⟩
  have c1 : p + size ≤ a.cb := by rw [hB] at hc; omega
  have g1 : decide (p ≤ p + size) = true := decide_eq_true (by omega)
  have g2 : decide (p + size ≤ a.cb) = true := decide_eq_true c1
  have g3 : decide ((p : Int) ≤ ((p + size : Nat) : Int)) = true := decide_eq_true (by omega)
  have g4 : decide (((p + size : Nat) : Int) ≤ (a.cb : Int)) = true := decide_eq_true (by omega)
  have g5 : decide ((a.cb : Int) < ((p + size : Nat) : Int)) = false := decide_eq_false (by omega)
  have g6 : decide (((p + size : Nat) : Int) < (p : Int)) = false := decide_eq_false (by omega)
  have hb1 : m + at_ < 1000000000 := by omega
  have hb2 : p + size < 1000000000 := by omega
  have hb3 : n < 1000 := by omega
  have hb4 : size ≤ 4096 := by omega
  have ew1 := eless size hb4
  have e1 := e4096 n hb3
  have e2 := eplus m at_ hb1
  have e3 := eplus p size hb2
  rw [← hm] at e1
  rw [← hp] at e2
  have c1' := Aside0.mk c1
  have hq := Aside0.mk (⟨hm, hp⟩ : m = 4096 * n ∧ p = m + at_)
  replace h := Aside0.mk h
  have hN := Aside0.mk (fun W (hW : RS W base a s) => none_q base a s W hW)
  generalize s.own.getD n 0 = ow at b1 hO
  clear hc hown hn ho hf hB hl hm hp hb1 hb2 hb3 hb4
  go_enter Try.func28, Try.ntmps28
  go_upto_region 3 with (first | (go_at_call 26; refine (hN.out _ h.out).mono ?_; rintro e w2 ⟨rfl, rfl⟩) | (go_at_call 29; refine hO.out.mono ?_; rintro e w2 ⟨rfl, rfl⟩))
  go_upto_region 4 with (fail)
  have B1 := blk_put (cs' := #[.pointer (some ⟨a.f, 0, none⟩), .slice (some ⟨a.b, 0, none⟩) s.B.length a.cb, .int .i64 (wrap64 (s.q + 1))]) h.out.blk 2 (.int .i64 (wrap64 (s.q + 1))) (by simp)
  have F1 : Far (fun k => k = a.g) w2 (w2.setCell ⟨a.g, 2, none⟩ (.int .i64 (wrap64 (s.q + 1)))) := (Far.refl _ w2).set1 _ _
  have H1 : RS (w2.setCell ⟨a.g, 2, none⟩ (.int .i64 (wrap64 (s.q + 1)))) base a { s with q := wrap64 (s.q + 1) } :=
    ⟨B1, h.out.fs.stay F1 (fun k hk e => by subst e; exact h.out.g_not hk), Kd.R_step h.out.bs (fun k hk hlt => F1.block k hlt (by rw [hk]; exact fun e => h.out.g_ne_b e.symm)), h.out.ge⟩
  have k1 : (w2.setCell ⟨a.g, 2, none⟩ (.int .i64 (wrap64 (s.q + 1)))).cell? ⟨a.g, 1, none⟩ = some (.slice (some ⟨a.b, 0, none⟩) s.B.length a.cb) := (blk_cell B1 1).trans rfl
  replace H1 := Aside0.mk H1
  replace F1 := Aside0.mk F1
  clear B1 h hN hO k0 k2 f2
  generalize w2.setCell ⟨a.g, 2, none⟩ (.int .i64 (wrap64 (s.q + 1))) = w3 at k1 H1 F1 ⊢
  go_wp2
  · go_returns
    obtain ⟨hm, hp⟩ := hq.out
    exact ⟨_, _, rfl, by omega, fun hs => by omega, H1.out, F1.out⟩
  · go_returns
    obtain ⟨hm, hp⟩ := hq.out
    exact ⟨_, _, rfl, by omega, fun hs => by omega, H1.out, F1.out⟩

end Go.Proofs.Ytejeehcmcadmcaa.Hand
