/- ZspagePieces: slices.AppendSeq over the iterator. -/
import Derived.Test.YtejeehcmcadmcaaZ1
import Derived.Test.YtejeehcmcadmcaaZ3
namespace Go.Proofs.Ytejeehcmcadmcaa.Hand
set_option linter.unusedVariables false
set_option linter.unusedSimpArgs false
open Go.RowKit Go.Proofs.Ytejeehcmcadmcaa.R Go.Proofs.YtejeehcmcadmcaaW.PrintWords Go.Proofs.YtejeehcmcadmcaaW.PrintLast Go.Proofs.YtejeehcmcadmcaaW.PrintMore

theorem info29 : (Try.prog.info? 29).map (fun i => (i.zero, i.size, i.bytes)) = some (some (.agg #[(.int .i64 0), (.int .i64 0), (.int .i64 0)]), 3, 24) := by kernel_rfl

theorem Below_low {n m : Nat} {a b : World} (h : Below n a b) (hm : m ≤ n) : Below m a b := ⟨h.os, h.tape, h.output, h.size, fun k hk => h.block k (by omega)⟩
/-- What has been told lies in a row of its own, which the variable bx names. -/
structure Has (w : World) (mb : Nat) (pre : List S28) (B : Nat) (W : World) : Prop where
  low : Far (fun i => i = mb) w W
  row : ∃ v, W.heap[w.heap.size]? = some (.cells #[v] 23 (0, 0)) ∧ Kd.R k28 29 W w.heap.size (fun _ => True) v pre ∧ ∀ i, v.ownBlock = some i → w.heap.size + 3 ≤ i ∧ i < B

theorem hne1 {w : World} {v : Value} {B : Nat} (ho : ∀ i, v.ownBlock = some i → w.heap.size + 3 ≤ i ∧ i < B) : some w.heap.size ≠ v.ownBlock := fun e => by have := (ho _ e.symm).1; omega
theorem size_setCell' (w : World) (p : Addr) (v : Value) : (w.setCell p v).heap.size = w.heap.size := by simp [World.setCell]
theorem has_far {w : World} {mb : Nat} (hmw : mb < w.heap.size) {pre : List S28} {B : Nat} {W W' : World} (h : Has w mb pre B W) (hfar : Far (fun i => i = mb ∨ i = w.heap.size + 1 ∨ i = w.heap.size + 1 + 1) W W') : Has w mb pre B W' := by
  obtain ⟨hl, v, hv, hR, ho⟩ := h
  have hg := hl.size
  refine ⟨?_, v, hfar.blk hv (fun h => by rcases h with h | h | h <;> omega), ?_, ho⟩
  · refine hl.trans hfar (fun i h => ?_)
    rcases h with h | h | h
    · exact .inl h
    · exact .inr (by omega)
    · exact .inr (by omega)
  · exact Kd.R_mono (Kd.R_step (Kd.R_tight rfl hR) (fun i hi hlt => hfar.block i hlt (fun h => by have := (ho i hi.symm).1; rcases h with h | h | h <;> omega))) (fun _ _ => trivial)

attribute [local go_sem] Oper.semAt_some
set_option maxHeartbeats 8000000 in
set_option maxRecDepth 100000 in
theorem appendSeq_in (sb nb fb mb k : Nat) (size n from_ many : Nat) (w : World)
    (hs : w.heap[sb]? = some (.cells #[.int .i64 (size : Int)] 3 (0, 0))) (hn : w.heap[nb]? = some (.cells #[.int .i64 (n : Int)] 3 (0, 0)))
    (hf : w.heap[fb]? = some (.cells #[.int .i64 (from_ : Int)] 3 (0, 0))) (hm : w.heap[mb]? = some (.cells #[.int .i64 (many : Int)] 3 (0, 0)))
    (b1 : size ≤ 4096) (b2 : n ≤ 255) (b3 : from_ ≤ 4096) (b4 : many ≤ 4096) :
    CallsIn Fence.wide k Try.prog 23 #[.slice none 0 0, .func (.func 24) #[] #[.pointer (some ⟨sb, 0, none⟩), .pointer (some ⟨nb, 0, none⟩), .pointer (some ⟨fb, 0, none⟩), .pointer (some ⟨mb, 0, none⟩)]] w fun e w' =>
      ∃ v, e = .returned v ∧ Kd.R k28 29 w' w.heap.size (fun _ => True) v (pcs (size * n + from_) many) ∧ Far (fun i => i = mb) w w' := by
  have hmw := blk_lt hm
  replace hs := Aside0.mk hs
  replace hn := Aside0.mk hn
  replace hf := Aside0.mk hf
  replace hm := Aside0.mk hm
  refine callsIn_of_wp_marks Try.func23 rfl trivial ?_ rfl
  simp only [Try.ntmps23, List.size_toArray, List.length_cons, List.length_nil, Nat.reduceAdd, Nat.reduceSub, Array.replicate_succ, Array.replicate_zero, List.push_toArray, List.append_toArray, List.nil_append, List.cons_append]
  gi_wp2
  have hbx := blk_new w (.cells #[.slice none 0 0] 23 (0, 0))
  have hba : Below w.heap.size w (w.alloc (.cells #[.slice none 0 0] 23 (0, 0))) := (Below.refl _ w).alloc (Nat.le_refl _) _
  have hsz : (w.alloc (.cells #[.slice none 0 0] 23 (0, 0))).heap.size = w.heap.size + 1 := World.size_alloc _ _
  generalize w.alloc (.cells #[.slice none 0 0] 23 (0, 0)) = wa at hbx hba hsz ⊢
  refine range_all (all := pcs (size * n + from_) many) (T := fun i => i = mb) (encs := fun x => #[enc3 x]) (gf := 24) (lb := #[.pointer (some ⟨sb, 0, none⟩), .pointer (some ⟨nb, 0, none⟩), .pointer (some ⟨fb, 0, none⟩), .pointer (some ⟨mb, 0, none⟩)]) rfl (enters_of Try.func24 (by kernel_rfl) rfl) (fun _ => rfl) (fun i e => by rw [e]; omega) ?seq (Has w mb) ?sIs ?s0 (fun pre x B a' W => ∃ pb, (pb < W.heap.size ∧ w.heap.size + 3 ≤ B) ∧ B ≤ pb ∧ W.heap[pb]? = some (.cells #[.int .i64 x.f0, .int .i64 x.f1, .int .i64 x.f2] 29 (0, 0)) ∧ a' = ⟨#[.slice none 0 0, .func (.func 24) #[] #[.pointer (some ⟨sb, 0, none⟩), .pointer (some ⟨nb, 0, none⟩), .pointer (some ⟨fb, 0, none⟩), .pointer (some ⟨mb, 0, none⟩)], .pointer (some ⟨w.heap.size, 0, none⟩), undef, .slice none 0 0, .pointer (some ⟨pb, 0, none⟩), .func (.func 24) #[] #[.pointer (some ⟨sb, 0, none⟩), .pointer (some ⟨nb, 0, none⟩), .pointer (some ⟨fb, 0, none⟩), .pointer (some ⟨mb, 0, none⟩)], .agg #[.int .i64 x.f0, .int .i64 x.f1, .int .i64 x.f2], undef, undef, undef, undef, undef], []⟩ ∧ Has w mb pre B W) ?sAs ?assign ?body ?done
  case seq =>
    intro W hW J hY h0
    have hBW := Below_low hW (show w.heap.size ≤ wa.heap.size by omega)
    have hb2 := hba.trans hBW
    exact pieces1_in (wa.heap.size + 1) sb nb fb mb (k - 1) size n from_ many J W hY (blk_below hs.out hb2) (blk_below hn.out hb2) (blk_below hf.out hb2) (blk_below hm.out hb2) b1 b2 b3 b4 h0 (by have := hW.size; omega)
  case sIs =>
    intro pre B W W' hH hfar
    rw [hsz] at hfar
    exact has_far hmw hH hfar
  case s0 =>
    intro W hW hs2
    have hBW := Below_low hW (show w.heap.size ≤ wa.heap.size by omega)
    exact ⟨Far.of_below (hba.trans hBW), _, blk_below hbx hW, Kd.R_nil _ _ _ _ _, fun i h => by cases h⟩
  case sAs =>
    rintro pre x B a' W W' ⟨pb, h1, h2, h3, h4, hH⟩ hfar
    rw [hsz] at hfar
    exact ⟨pb, ⟨Nat.lt_of_lt_of_le h1.1 hfar.size, h1.2⟩, h2, hfar.blk h3 (fun h => by rcases h with h | h | h <;> omega), h4, has_far hmw hH hfar⟩
  case assign =>
    rintro pre ⟨f0, f1, f2⟩ B W K hI hB hD hK
    simp only [enc3]
    have hpb := blk_new W (.cells #[.int .i64 f0, .int .i64 f1, .int .i64 f2] 29 (0, 0))
    have hbl : Below W.heap.size W (W.alloc (.cells #[.int .i64 f0, .int .i64 f1, .int .i64 f2] 29 (0, 0))) := (Below.refl _ W).alloc (Nat.le_refl _) _
    replace hpb := Aside0.mk hpb
    replace hbl := Aside0.mk hbl
    replace hI := Aside0.mk hI
    gi_wp2
    refine hK _ _ ⟨W.heap.size, ⟨blk_lt hpb.out, by omega⟩, hB, hpb.out, rfl, has_far hmw hI.out (Far.of_below hbl.out)⟩ hbl.out
  case body =>
    rintro pre x B a' W hpl ⟨pb, h1, h2, h3, rfl, hH⟩ hB hD
    obtain ⟨hl, v, hv, hR, ho⟩ := hH
    obtain ⟨A, c, rfl⟩ := Kd.R_slice hR
    have kv := hbox hv
    have kp0 : W.cell? ⟨pb, 0, none⟩ = some (.int .i64 x.f0) := (blk_cell h3 0).trans rfl
    have kp1 : W.cell? ⟨pb, 1, none⟩ = some (.int .i64 x.f1) := (blk_cell h3 1).trans rfl
    have kp2 : W.cell? ⟨pb, 2, none⟩ = some (.int .i64 x.f2) := (blk_cell h3 2).trans rfl
    have hpl2 := pcs_len (size * n + from_) many
    have hal : (pre.length + 1) * 24 ≤ 140737488355328 := by omega
    refine wpIn_block ?_
    generalize hQ : Exit.inBlock 1 _ = QQ
    refine region_round (fun h => ?hq) ?hd ?_
    case hq =>
      obtain ⟨a, w', h⟩ := h
      rw [← hQ] at h
      cases h.1
    case hd => simp
    replace hQ := Aside0.mk hQ
    replace hR := Aside0.mk hR
    replace hl := Aside0.mk hl
    replace hv := Aside0.mk hv
    replace ho := Aside0.mk ho
    replace h3 := Aside0.mk h3
    replace hal := Aside0.mk hal
    clear hpl hpl2
    go_wp2_with (first | ((with_reducible refine gate_builtin (b := .append) (xs := #[.tmp 8, .tmp 10]) rfl ?_); at_builtin; refine Kd.R_append k28 (w0 := W) w.heap.size rfl (.tmp 8) (.tmp 10) 23 29 (.agg #[.int .i64 0, .int .i64 0, .int .i64 0]) 24 rfl Try.underlying23 info29 rfl (by decide) (by omega) (.slice A pre.length c) pre x [.int .i64 x.f0, .int .i64 x.f1, .int .i64 x.f2] (fun _ => True) (fun _ => False) rfl rfl ?aP (fun _ hk => hk.elim) ?aF ?aO ?aB ?aS ?aL ?_; (case aP => exact k28_mkM _ _ _ x); (case aB => exact Below.refl _ _); (case aF => exact (fun _ _ => trivial)); (case aO => exact hR.out); (case aS => exact hl.out.size); (case aL => exact hal.out); intro v4 w4 ho4 hb4 hg4 hat4; obtain ⟨A4, c4, e4⟩ := Kd.R_slice ho4; rw [List.length_append, List.length_singleton] at e4; subst e4; have hv4 := (hg4.block w.heap.size (blk_lt hv.out) (hne1 ho.out)).trans hv.out; have fv4 := blk_frozen hv4 0; have kv4 := hbox hv4; replace ho4 := Aside0.mk ho4; replace hb4 := Aside0.mk hb4; replace hg4 := Aside0.mk hg4; replace hat4 := Aside0.mk hat4; replace hv4 := Aside0.mk hv4))
    rw [← hQ.out]
    have hown : ∀ i, (Value.slice A4 (pre.length + 1) c4).ownBlock = some i → w.heap.size + 3 ≤ i := fun i hi => by
      rcases hat4.out with h | ⟨b, h, hb⟩
      · exact (ho.out i (h ▸ hi)).1
      · rw [h] at hi
        injection hi with hi
        omega
    have hne : ∀ i, i ≠ w.heap.size → i < W.heap.size → (∀ j, (Value.slice A pre.length c).ownBlock = some j → i ≠ j) → (w4.setCell ⟨w.heap.size, 0, none⟩ (.slice A4 (pre.length + 1) c4)).heap[i]? = W.heap[i]? := fun i h1 h2 h3 => by
      rw [Below.heap_setCell _ _ _ _ (show i ≠ w.heap.size from h1)]
      exact hg4.out.block i h2 (fun e => h3 i e.symm rfl)
    have hlow := hl.out.size
    have hs4 := hg4.out.size
    refine ⟨rfl, ⟨?_, _, blk_put hv4.out 0 _ rfl, ?_, ?_⟩, ?_, ?_⟩
    · refine (hl.out.trans (S2 := fun i => w.heap.size ≤ i) ?_ (fun i h => .inr h))
      refine Far.setCell (S := fun i => w.heap.size ≤ i) ?_ (.inl (Nat.le_refl w.heap.size)) _
      exact ⟨hg4.out.os, hg4.out.tape, hg4.out.output, hs4, fun i hlt hn => hg4.out.block i hlt (fun e => by have := (ho.out i e.symm).1; omega)⟩
    · exact Kd.R_mono (Kd.R_far (Kd.R_tight rfl ho4.out) (fun k hk => by have := hown k hk.symm; show k ≠ w.heap.size; omega) _) (fun _ _ => trivial)
    · intro i hi
      refine ⟨hown i hi, ?_⟩
      have := Kd.R_lt ho4.out i hi
      show i < (w4.setCell _ _).heap.size
      rw [size_setCell']
      exact this
    · show W.heap.size ≤ (w4.setCell _ _).heap.size
      rw [size_setCell']
      exact hs4
    · intro i hi
      refine hne i ?_ ?_ ?_
      · rcases hi with h | h | h | h <;> omega
      · rcases hi with h | h | h | h <;> omega
      · intro j hj
        have := ho.out j hj
        rcases hi with h | h | h | h <;> omega
  case done =>
    rintro B W ⟨hl, v, hv, hR, ho⟩ hK
    have kv := hbox hv
    have hR2 : Kd.R k28 29 (W.putObj wa.heap.size (.deferred none)) w.heap.size (fun _ => True) v (pcs (size * n + from_) many) :=
      Kd.R_mono (Kd.R_step (Kd.R_tight rfl hR) (fun i hi hlt => World.putObj_heap_other (fun e => by have := (ho i hi.symm).1; omega))) (fun _ _ => trivial)
    have hl2 : Far (fun i => i = mb) w (W.putObj wa.heap.size (.deferred none)) := hl.putObj (.inr (by omega)) _
    obtain ⟨A, c, e⟩ := Kd.R_slice hR
    generalize (pcs (size * n + from_) many).length = len at e
    subst e
    replace hR2 := Aside0.mk hR2
    replace hl2 := Aside0.mk hl2
    replace hK := Aside0.mk hK
    clear hR ho hl hv
    gi_wp2
    refine ⟨by simp, .inl ⟨_, _, rfl, run_takeDeferred hK.out, ?_⟩⟩
    exact ⟨_, results_tmp rfl _ _ _, .slice A len c, rfl, hR2.out, hl2.out⟩

end Go.Proofs.Ytejeehcmcadmcaa.Hand
