/- An op done: walked (written by genA7.py). -/
import Derived.Test.YtgcgnpinhlmmjaaA6
namespace Go.Proofs.Ytgcgnpinhlmmjaa.Hand
set_option linter.unusedVariables false
set_option linter.unusedSimpArgs false
open Go.RowKit Go.Maps Go.Proofs.Ytgcgnpinhlmmjaa.R Go.Proofs.Ytgcgnpinhlmmjaa.Va Go.Proofs.YtgcgnpinhlmmjaaW.PrintWords Go.Proofs.YtgcgnpinhlmmjaaW.PrintLast Go.Proofs.YtgcgnpinhlmmjaaW.PrintMore

theorem MN.far {w w' : World} {base bb mb cnt : Nat} {L L' : List Pg} {B : Int → Nat × Nat} (h : MN w w' base bb mb cnt L L' B) : Far (Mown mb L B) w w' := by
  obtain ⟨_, _, _, h⟩ := h.out
  exact h
theorem MN.same {w w' : World} {base bb mb cnt : Nat} {D : DataW Unit} {L : List Pg} {B : Int → Nat × Nat} (h : MD w base bb mb cnt D L B) (f : Below w.heap.size w w') : MN w w' base bb mb cnt L L B := MN.mk' B (h.below f).e (fun _ h => .inl h) (Far.of_below f)
theorem MN.mono {w w' : World} {base bb mb cnt cnt' : Nat} {L L' : List Pg} {B : Int → Nat × Nat} (h : MN w w' base bb mb cnt L L' B) (hc : cnt ≤ cnt') : MN w w' base bb mb cnt' L L' B := by
  obtain ⟨B', ⟨D, h1⟩, h2, h3⟩ := h.out
  exact MN.mk' B' (h1.mono hc).e h2 h3
theorem MN.of {w w' : World} {base bb mb cnt : Nat} {L L' : List Pg} {B : Int → Nat × Nat} (hn : L'.map (·.n) = L.map (·.n) ∨ (∀ p ∈ L', p ∈ L)) (h : ME w' base bb mb cnt L' B) (f : Far (Mown mb L B) w w') : MN w w' base bb mb cnt L L' B :=
  MN.mk' B h (fun k hk => .inl (by
    rcases hn with hn | hn
    · exact Mown_ns hn hk
    · rcases hk with rfl | ⟨p, hp, hk⟩
      · exact .inl rfl
      · exact .inr ⟨p, hn p hp, hk⟩)) f
/-- The answer's own cells, written behind the op. -/
theorem MN.ans {w wc w2 : World} {base bb mb cnt cnt0 : Nat} {D : DataW Unit} {L L' : List Pg} {B : Int → Nat × Nat} (h0 : MD w base bb mb cnt0 D L B) (hb : Below w.heap.size w wc) (hs : wc.heap.size = w.heap.size + 2) (h : MN wc w2 base bb mb cnt L L' B) (u0 u1 u2 : Value) :
    MN w (((w2.setCell ⟨w.heap.size + 1, 0, none⟩ u0).setCell ⟨w.heap.size + 1, 1, none⟩ u1).setCell ⟨w.heap.size + 1, 2, none⟩ u2) base bb mb cnt L L' B := by
  obtain ⟨B', ⟨D', h1⟩, h2, h3⟩ := h.out
  have f : Far (fun k => k = w.heap.size + 1) w2 (((w2.setCell ⟨w.heap.size + 1, 0, none⟩ u0).setCell ⟨w.heap.size + 1, 1, none⟩ u1).setCell ⟨w.heap.size + 1, 2, none⟩ u2) := (((Far.refl _ w2).set1 _ _).set1 _ _).set1 _ _
  refine MN.mk' B' (h1.stay f (fun k hk e => ?_)).e (fun k hk => (h2 k hk).imp id (fun e => by omega)) (((Far.of_below hb).then_ h3).trans f (fun i hi => .inr (by omega)))
  rcases hk with rfl | hk
  · have := (h0.own_lt k (.inl rfl)).2
    omega
  · rcases h2 k hk with hk | hk
    · have := (h0.own_lt k (.inr hk)).2
      omega
    · omega
/-- What an op leaves, and the bytes that it told. -/
structure DN (w w' : World) (base bb mb cnt : Nat) (L L' : List Pg) (B : Int → Nat × Nat) (v : Value) (data : List Int) : Prop where
  out : ∃ B', ME w' base bb mb cnt L' B' ∧ (∀ k, Mown mb L' B' k → Mown mb L B k ∨ w.heap.size ≤ k) ∧ Far (Mown mb L B) w w' ∧ RB w' w.heap.size (fun k => ¬ Mown mb L' B' k ∧ k ≠ bb) v data
theorem DN.nil {w w' : World} {base bb mb cnt : Nat} {L L' : List Pg} {B : Int → Nat × Nat} (h : MN w w' base bb mb cnt L L' B) : DN w w' base bb mb cnt L L' B (.slice none 0 0) [] := by
  obtain ⟨B', h1, h2, h3⟩ := h.out
  exact ⟨⟨B', h1, h2, h3, Kd.R_nil _ _ _ _ _⟩⟩
theorem DN.read {w w' : World} {base bb mb cnt : Nat} {D : DataW Unit} {L : List Pg} {B : Int → Nat × Nat} {v : Value} {data : List Int} (h : MD w base bb mb cnt D L B) (hb : Below w.heap.size w w') (hr : RB w' w.heap.size (fun _ => True) v data) : DN w w' base bb mb (cnt + 1) L L B v data := by
  refine ⟨⟨B, ((h.below hb).mono (Nat.le_succ cnt)).e, fun _ hk => .inl hk, Far.of_below hb, Kd.R_mono (Kd.R_bound hr) (fun k hk => ⟨fun hm => ?_, fun e => ?_⟩)⟩⟩
  · have := (h.own_lt k (.inr hm)).2
    have := hk.2.1
    omega
  · have := (h.own_lt k (.inl e)).2
    have := hk.2.1
    omega
def Done (w : World) (base bb mb cnt : Nat) (L L' : List Pg) (B : Int → Nat × Nat) (err : Int) (data : List Int) (e : Ending) (w' : World) : Prop :=
  ∃ v, e = .returned (.agg #[.int .i64 err, .int .i64 0, v]) ∧ DN w w' base bb mb cnt L L' B v data
theorem rb_ans {w2 : World} {v : Value} {xs : List Int} {b : Nat} (h : RB w2 (b + 2) (fun _ => True) v xs) (u0 u1 u2 : Value) : RB (((w2.setCell ⟨b + 1, 0, none⟩ u0).setCell ⟨b + 1, 1, none⟩ u1).setCell ⟨b + 1, 2, none⟩ u2) b (fun _ => True) v xs := by
  have h1 : RB w2 (b + 2) (fun k => k ≠ b + 1) v xs := Kd.R_mono (Kd.R_bound h) (fun k hk => by have := hk.2.1; omega)
  have h2 := Kd.R_far (p := ⟨b + 1, 0, none⟩) h1 (fun k hk => hk) u0
  have h3 := Kd.R_far (p := ⟨b + 1, 1, none⟩) h2 (fun k hk => hk) u1
  have h4 := Kd.R_far (p := ⟨b + 1, 2, none⟩) h3 (fun k hk => hk) u2
  exact Kd.R_lower (Kd.R_mono h4 (fun _ _ => trivial)) (by omega)
theorem protL_ns (L : List Pg) (a : Nat) (k : Int) : (protL L a k).map (·.n) = L.map (·.n) := by
  unfold protL
  split
  · split
    · rfl
    · exact repP_ns _ _
  · rfl
theorem storeL_ns (L : List Pg) (a : Nat) (xs : List Int) : (storeL L a xs).map (·.n) = L.map (·.n) := by
  unfold storeL
  split
  · exact storeF_ns a xs 0 L
  · rfl

set_option maxHeartbeats 8000000 in
set_option maxRecDepth 100000 in
theorem does_map (base bb mb cnt : Nat) (D : DataW Unit) (L : List Pg) (B : Int → Nat × Nat) (o : S25) (A : Option Addr) (c : Nat) (a : Nat) (ha : a < 18446744073709551616) (hoa : o.f3 = (a : Int)) (w : World) (h : MD w base bb mb cnt D L B) (hcnt : cnt ≤ 1000000) (hk : o.f0 = 0) :
    Calls Try.prog 30 #[.pointer (some ⟨bb, 0, none⟩), .agg #[.int .i64 o.f0, .int .i64 o.f1, .int .i64 o.f2, .int .u64 o.f3, .slice A o.f4.length c]] w (Done w base bb mb (cnt + 1) L (mapL L a o.f1) B ((mapE L a o.f1)) ([])) := by
  have hb1 := below_alloc (below_alloc (Below.refl _ w) (.cells #[.int .i64 o.f0, .int .i64 o.f1, .int .i64 o.f2, .int .u64 o.f3, .slice A o.f4.length c] 25 (0, 0))) (.cells #[.int .i64 0, .int .i64 0, .slice none 0 0] 28 (0, 0))
  have q0 := blk_alloc (blk_new w (.cells #[.int .i64 o.f0, .int .i64 o.f1, .int .i64 o.f2, .int .u64 o.f3, .slice A o.f4.length c] 25 (0, 0))) (.cells #[.int .i64 0, .int .i64 0, .slice none 0 0] 28 (0, 0))
  have q1 := blk_new (w.alloc (.cells #[.int .i64 o.f0, .int .i64 o.f1, .int .i64 o.f2, .int .u64 o.f3, .slice A o.f4.length c] 25 (0, 0))) (.cells #[.int .i64 0, .int .i64 0, .slice none 0 0] 28 (0, 0))
  rw [World.size_alloc] at q1
  have hz : ((w.alloc (.cells #[.int .i64 o.f0, .int .i64 o.f1, .int .i64 o.f2, .int .u64 o.f3, .slice A o.f4.length c] 25 (0, 0))).alloc (.cells #[.int .i64 0, .int .i64 0, .slice none 0 0] 28 (0, 0))).heap.size = w.heap.size + 2 := by rw [World.size_alloc, World.size_alloc]
  have hM := h.below hb1
  have b0 : (o.f0 == 0) = true := beq_iff_eq.mpr hk
  replace hk := Aside0.mk hk
  replace hoa := Aside0.mk hoa
  go_enter Try.func30, Try.ntmps30
  go_upto_region 1 with fail
  generalize ((w.alloc (.cells #[.int .i64 o.f0, .int .i64 o.f1, .int .i64 o.f2, .int .u64 o.f3, .slice A o.f4.length c] 25 (0, 0))).alloc (.cells #[.int .i64 0, .int .i64 0, .slice none 0 0] 28 (0, 0))) = wc at *
  have k0 : wc.cell? ⟨w.heap.size, 0, none⟩ = some (.int .i64 o.f0) := (blk_cell q0 0).trans rfl
  have k1 : wc.cell? ⟨w.heap.size, 1, none⟩ = some (.int .i64 o.f1) := (blk_cell q0 1).trans rfl
  have k2 : wc.cell? ⟨w.heap.size, 2, none⟩ = some (.int .i64 o.f2) := (blk_cell q0 2).trans rfl
  have k3 : wc.cell? ⟨w.heap.size, 3, none⟩ = some (.int .u64 o.f3) := (blk_cell q0 3).trans rfl
  have k4 : wc.cell? ⟨w.heap.size, 4, none⟩ = some (.slice A o.f4.length c) := (blk_cell q0 4).trans rfl
  have hno : ¬ Mown mb L B (w.heap.size + 1) := fun hk => by have := (h.own_lt _ (.inr hk)).2; omega
  have hans := Aside0.mk (fun W (hW : Far (Mown mb L B) wc W) => hW.blk q1 hno)
  obtain ⟨ER, hER⟩ : ∃ e, e = (mapE L a o.f1) := ⟨_, rfl⟩
  have hC := mapped_calls base bb mb cnt D L B o.f0 o.f1 o.f2 a ha (.slice A o.f4.length c) wc hM hcnt
  rw [← hoa.out] at hC
  replace hC := Aside0.mk hC
  have hMN := Aside0.mk <| fun W (hm : MN wc W base bb mb (cnt + 1) L (mapL L a o.f1) B) => (⟨hm, hm.far⟩ : _ ∧ _)
  replace h := Aside0.mk h
  replace hM := Aside0.mk hM
  replace hb1 := Aside0.mk hb1
  replace hz := Aside0.mk hz
  clear q0 q1 hno
  go_wp2_with (go_at_call 43; refine hC.out.mono ?_; rintro e w2 ⟨rfl, hmm⟩; obtain ⟨hm, hf2⟩ := hMN.out w2 hmm; replace hm := Aside0.mk hm; clear hmm; have p1 := hans.out _ hf2; have kc0 := (blk_cell p1 0).trans rfl; have kc1 := (blk_cell p1 1).trans rfl; have kc2 := (blk_cell p1 2).trans rfl; have f10 := blk_frozen p1 0; have f11 := blk_frozen p1 1; have f12 := blk_frozen p1 2; have hF := Aside0.mk (blk_put (cs' := #[.int .i64 (mapE L a o.f1), .int .i64 0, (.slice none 0 0)]) (blk_put (cs' := #[.int .i64 (mapE L a o.f1), .int .i64 0, .slice none 0 0]) (blk_put (cs' := #[.int .i64 (mapE L a o.f1), .int .i64 0, .slice none 0 0]) p1 0 (.int .i64 (mapE L a o.f1)) (by simp)) 1 (.int .i64 0) (by simp)) 2 (.slice none 0 0) (by simp)); clear p1 hf2)
  refine bodyPost_ret (results_single rfl (.cell (w.heap.size + 1) 28 _ (0, 0) _ rfl hF.out Try.underlying28 rfl (by kernel_rfl) .nil)) rfl ⟨_, rfl, DN.nil (MN.ans h.out hb1.out hz.out hm.out _ _ _)⟩

set_option maxHeartbeats 8000000 in
set_option maxRecDepth 100000 in
theorem does_unmap (base bb mb cnt : Nat) (D : DataW Unit) (L : List Pg) (B : Int → Nat × Nat) (o : S25) (A : Option Addr) (c : Nat) (a : Nat) (ha : a < 18446744073709551616) (hoa : o.f3 = (a : Int)) (w : World) (h : MD w base bb mb cnt D L B) (hcnt : cnt ≤ 1000000) (hk : o.f0 = 1) :
    Calls Try.prog 30 #[.pointer (some ⟨bb, 0, none⟩), .agg #[.int .i64 o.f0, .int .i64 o.f1, .int .i64 o.f2, .int .u64 o.f3, .slice A o.f4.length c]] w (Done w base bb mb (cnt + 1) L (unmapL L a) B ((unmapE L a)) ([])) := by
  have hb1 := below_alloc (below_alloc (Below.refl _ w) (.cells #[.int .i64 o.f0, .int .i64 o.f1, .int .i64 o.f2, .int .u64 o.f3, .slice A o.f4.length c] 25 (0, 0))) (.cells #[.int .i64 0, .int .i64 0, .slice none 0 0] 28 (0, 0))
  have q0 := blk_alloc (blk_new w (.cells #[.int .i64 o.f0, .int .i64 o.f1, .int .i64 o.f2, .int .u64 o.f3, .slice A o.f4.length c] 25 (0, 0))) (.cells #[.int .i64 0, .int .i64 0, .slice none 0 0] 28 (0, 0))
  have q1 := blk_new (w.alloc (.cells #[.int .i64 o.f0, .int .i64 o.f1, .int .i64 o.f2, .int .u64 o.f3, .slice A o.f4.length c] 25 (0, 0))) (.cells #[.int .i64 0, .int .i64 0, .slice none 0 0] 28 (0, 0))
  rw [World.size_alloc] at q1
  have hz : ((w.alloc (.cells #[.int .i64 o.f0, .int .i64 o.f1, .int .i64 o.f2, .int .u64 o.f3, .slice A o.f4.length c] 25 (0, 0))).alloc (.cells #[.int .i64 0, .int .i64 0, .slice none 0 0] 28 (0, 0))).heap.size = w.heap.size + 2 := by rw [World.size_alloc, World.size_alloc]
  have hM := h.below hb1
  have b0 : (o.f0 == 0) = false := beq_eq_false_iff_ne.mpr (by omega)
  have b1 : (o.f0 == 1) = true := beq_iff_eq.mpr hk
  replace hk := Aside0.mk hk
  replace hoa := Aside0.mk hoa
  go_enter Try.func30, Try.ntmps30
  go_upto_region 1 with fail
  generalize ((w.alloc (.cells #[.int .i64 o.f0, .int .i64 o.f1, .int .i64 o.f2, .int .u64 o.f3, .slice A o.f4.length c] 25 (0, 0))).alloc (.cells #[.int .i64 0, .int .i64 0, .slice none 0 0] 28 (0, 0))) = wc at *
  have k0 : wc.cell? ⟨w.heap.size, 0, none⟩ = some (.int .i64 o.f0) := (blk_cell q0 0).trans rfl
  have k1 : wc.cell? ⟨w.heap.size, 1, none⟩ = some (.int .i64 o.f1) := (blk_cell q0 1).trans rfl
  have k2 : wc.cell? ⟨w.heap.size, 2, none⟩ = some (.int .i64 o.f2) := (blk_cell q0 2).trans rfl
  have k3 : wc.cell? ⟨w.heap.size, 3, none⟩ = some (.int .u64 o.f3) := (blk_cell q0 3).trans rfl
  have k4 : wc.cell? ⟨w.heap.size, 4, none⟩ = some (.slice A o.f4.length c) := (blk_cell q0 4).trans rfl
  have hno : ¬ Mown mb L B (w.heap.size + 1) := fun hk => by have := (h.own_lt _ (.inr hk)).2; omega
  have hans := Aside0.mk (fun W (hW : Far (Mown mb L B) wc W) => hW.blk q1 hno)
  obtain ⟨ER, hER⟩ : ∃ e, e = (unmapE L a) := ⟨_, rfl⟩
  have hC := unmapped_calls base bb mb cnt D L B o.f0 o.f1 o.f2 a ha (.slice A o.f4.length c) wc hM
  rw [← hoa.out] at hC
  replace hC := Aside0.mk hC
  have hMN := Aside0.mk <| fun W (hm : ME W base bb mb cnt (unmapL L a) B ∧ Far (Mown mb L B) wc W) => (⟨(MN.of (.inr (fun p hp => by unfold unmapL at hp; split at hp; exact (mem_delP.1 hp).1; exact hp)) hm.1 hm.2).mono (Nat.le_succ cnt), hm.2⟩ : MN wc W base bb mb (cnt + 1) L (unmapL L a) B ∧ _)
  replace h := Aside0.mk h
  replace hM := Aside0.mk hM
  replace hb1 := Aside0.mk hb1
  replace hz := Aside0.mk hz
  clear q0 q1 hno
  go_wp2_with (go_at_call 44; refine hC.out.mono ?_; rintro e w2 ⟨rfl, hmm⟩; obtain ⟨hm, hf2⟩ := hMN.out w2 hmm; replace hm := Aside0.mk hm; clear hmm; have p1 := hans.out _ hf2; have kc0 := (blk_cell p1 0).trans rfl; have kc1 := (blk_cell p1 1).trans rfl; have kc2 := (blk_cell p1 2).trans rfl; have f10 := blk_frozen p1 0; have f11 := blk_frozen p1 1; have f12 := blk_frozen p1 2; have hF := Aside0.mk (blk_put (cs' := #[.int .i64 (unmapE L a), .int .i64 0, (.slice none 0 0)]) (blk_put (cs' := #[.int .i64 (unmapE L a), .int .i64 0, .slice none 0 0]) (blk_put (cs' := #[.int .i64 (unmapE L a), .int .i64 0, .slice none 0 0]) p1 0 (.int .i64 (unmapE L a)) (by simp)) 1 (.int .i64 0) (by simp)) 2 (.slice none 0 0) (by simp)); clear p1 hf2)
  refine bodyPost_ret (results_single rfl (.cell (w.heap.size + 1) 28 _ (0, 0) _ rfl hF.out Try.underlying28 rfl (by kernel_rfl) .nil)) rfl ⟨_, rfl, DN.nil (MN.ans h.out hb1.out hz.out hm.out _ _ _)⟩

set_option maxHeartbeats 8000000 in
set_option maxRecDepth 100000 in
theorem does_protect (base bb mb cnt : Nat) (D : DataW Unit) (L : List Pg) (B : Int → Nat × Nat) (o : S25) (A : Option Addr) (c : Nat) (a : Nat) (ha : a < 18446744073709551616) (hoa : o.f3 = (a : Int)) (w : World) (h : MD w base bb mb cnt D L B) (hcnt : cnt ≤ 1000000) (hk : o.f0 = 2) :
    Calls Try.prog 30 #[.pointer (some ⟨bb, 0, none⟩), .agg #[.int .i64 o.f0, .int .i64 o.f1, .int .i64 o.f2, .int .u64 o.f3, .slice A o.f4.length c]] w (Done w base bb mb (cnt + 1) L (protL L a o.f1) B ((protE L a o.f1)) ([])) := by
  have hb1 := below_alloc (below_alloc (Below.refl _ w) (.cells #[.int .i64 o.f0, .int .i64 o.f1, .int .i64 o.f2, .int .u64 o.f3, .slice A o.f4.length c] 25 (0, 0))) (.cells #[.int .i64 0, .int .i64 0, .slice none 0 0] 28 (0, 0))
  have q0 := blk_alloc (blk_new w (.cells #[.int .i64 o.f0, .int .i64 o.f1, .int .i64 o.f2, .int .u64 o.f3, .slice A o.f4.length c] 25 (0, 0))) (.cells #[.int .i64 0, .int .i64 0, .slice none 0 0] 28 (0, 0))
  have q1 := blk_new (w.alloc (.cells #[.int .i64 o.f0, .int .i64 o.f1, .int .i64 o.f2, .int .u64 o.f3, .slice A o.f4.length c] 25 (0, 0))) (.cells #[.int .i64 0, .int .i64 0, .slice none 0 0] 28 (0, 0))
  rw [World.size_alloc] at q1
  have hz : ((w.alloc (.cells #[.int .i64 o.f0, .int .i64 o.f1, .int .i64 o.f2, .int .u64 o.f3, .slice A o.f4.length c] 25 (0, 0))).alloc (.cells #[.int .i64 0, .int .i64 0, .slice none 0 0] 28 (0, 0))).heap.size = w.heap.size + 2 := by rw [World.size_alloc, World.size_alloc]
  have hM := h.below hb1
  have b0 : (o.f0 == 0) = false := beq_eq_false_iff_ne.mpr (by omega)
  have b1 : (o.f0 == 1) = false := beq_eq_false_iff_ne.mpr (by omega)
  have b2 : (o.f0 == 2) = true := beq_iff_eq.mpr hk
  replace hk := Aside0.mk hk
  replace hoa := Aside0.mk hoa
  go_enter Try.func30, Try.ntmps30
  go_upto_region 1 with fail
  generalize ((w.alloc (.cells #[.int .i64 o.f0, .int .i64 o.f1, .int .i64 o.f2, .int .u64 o.f3, .slice A o.f4.length c] 25 (0, 0))).alloc (.cells #[.int .i64 0, .int .i64 0, .slice none 0 0] 28 (0, 0))) = wc at *
  have k0 : wc.cell? ⟨w.heap.size, 0, none⟩ = some (.int .i64 o.f0) := (blk_cell q0 0).trans rfl
  have k1 : wc.cell? ⟨w.heap.size, 1, none⟩ = some (.int .i64 o.f1) := (blk_cell q0 1).trans rfl
  have k2 : wc.cell? ⟨w.heap.size, 2, none⟩ = some (.int .i64 o.f2) := (blk_cell q0 2).trans rfl
  have k3 : wc.cell? ⟨w.heap.size, 3, none⟩ = some (.int .u64 o.f3) := (blk_cell q0 3).trans rfl
  have k4 : wc.cell? ⟨w.heap.size, 4, none⟩ = some (.slice A o.f4.length c) := (blk_cell q0 4).trans rfl
  have hno : ¬ Mown mb L B (w.heap.size + 1) := fun hk => by have := (h.own_lt _ (.inr hk)).2; omega
  have hans := Aside0.mk (fun W (hW : Far (Mown mb L B) wc W) => hW.blk q1 hno)
  obtain ⟨ER, hER⟩ : ∃ e, e = (protE L a o.f1) := ⟨_, rfl⟩
  have hC := protected_calls base bb mb cnt D L B o.f0 o.f1 o.f2 a ha (.slice A o.f4.length c) wc hM
  rw [← hoa.out] at hC
  replace hC := Aside0.mk hC
  have hMN := Aside0.mk <| fun W (hm : ME W base bb mb cnt (protL L a o.f1) B ∧ Far (Mown mb L B) wc W) => (⟨(MN.of (.inl (protL_ns L a o.f1)) hm.1 hm.2).mono (Nat.le_succ cnt), hm.2⟩ : MN wc W base bb mb (cnt + 1) L (protL L a o.f1) B ∧ _)
  replace h := Aside0.mk h
  replace hM := Aside0.mk hM
  replace hb1 := Aside0.mk hb1
  replace hz := Aside0.mk hz
  clear q0 q1 hno
  go_wp2_with (go_at_call 45; refine hC.out.mono ?_; rintro e w2 ⟨rfl, hmm⟩; obtain ⟨hm, hf2⟩ := hMN.out w2 hmm; replace hm := Aside0.mk hm; clear hmm; have p1 := hans.out _ hf2; have kc0 := (blk_cell p1 0).trans rfl; have kc1 := (blk_cell p1 1).trans rfl; have kc2 := (blk_cell p1 2).trans rfl; have f10 := blk_frozen p1 0; have f11 := blk_frozen p1 1; have f12 := blk_frozen p1 2; have hF := Aside0.mk (blk_put (cs' := #[.int .i64 (protE L a o.f1), .int .i64 0, (.slice none 0 0)]) (blk_put (cs' := #[.int .i64 (protE L a o.f1), .int .i64 0, .slice none 0 0]) (blk_put (cs' := #[.int .i64 (protE L a o.f1), .int .i64 0, .slice none 0 0]) p1 0 (.int .i64 (protE L a o.f1)) (by simp)) 1 (.int .i64 0) (by simp)) 2 (.slice none 0 0) (by simp)); clear p1 hf2)
  refine bodyPost_ret (results_single rfl (.cell (w.heap.size + 1) 28 _ (0, 0) _ rfl hF.out Try.underlying28 rfl (by kernel_rfl) .nil)) rfl ⟨_, rfl, DN.nil (MN.ans h.out hb1.out hz.out hm.out _ _ _)⟩

set_option maxHeartbeats 8000000 in
set_option maxRecDepth 100000 in
theorem does_store (base bb mb cnt : Nat) (D : DataW Unit) (L : List Pg) (B : Int → Nat × Nat) (o : S25) (A : Option Addr) (c : Nat) (a : Nat) (ha : a < 18446744073709551616) (hoa : o.f3 = (a : Int)) (w : World) (h : MD w base bb mb cnt D L B) (hcnt : cnt ≤ 1000000) (hk : o.f0 = 4) (hxs : ∀ x ∈ o.f4, 0 ≤ x ∧ x < 256) (hdat : ∀ W, Far (Mown mb L B) w W → Kd.C (Kd.int .u8) W A o.f4.length o.f4) :
    Calls Try.prog 30 #[.pointer (some ⟨bb, 0, none⟩), .agg #[.int .i64 o.f0, .int .i64 o.f1, .int .i64 o.f2, .int .u64 o.f3, .slice A o.f4.length c]] w (Done w base bb mb (cnt + 1) L (storeL L a o.f4) B ((mayB L a (o.f4.length : Int) 2)) ([])) := by
  have hb1 := below_alloc (below_alloc (Below.refl _ w) (.cells #[.int .i64 o.f0, .int .i64 o.f1, .int .i64 o.f2, .int .u64 o.f3, .slice A o.f4.length c] 25 (0, 0))) (.cells #[.int .i64 0, .int .i64 0, .slice none 0 0] 28 (0, 0))
  have q0 := blk_alloc (blk_new w (.cells #[.int .i64 o.f0, .int .i64 o.f1, .int .i64 o.f2, .int .u64 o.f3, .slice A o.f4.length c] 25 (0, 0))) (.cells #[.int .i64 0, .int .i64 0, .slice none 0 0] 28 (0, 0))
  have q1 := blk_new (w.alloc (.cells #[.int .i64 o.f0, .int .i64 o.f1, .int .i64 o.f2, .int .u64 o.f3, .slice A o.f4.length c] 25 (0, 0))) (.cells #[.int .i64 0, .int .i64 0, .slice none 0 0] 28 (0, 0))
  rw [World.size_alloc] at q1
  have hz : ((w.alloc (.cells #[.int .i64 o.f0, .int .i64 o.f1, .int .i64 o.f2, .int .u64 o.f3, .slice A o.f4.length c] 25 (0, 0))).alloc (.cells #[.int .i64 0, .int .i64 0, .slice none 0 0] 28 (0, 0))).heap.size = w.heap.size + 2 := by rw [World.size_alloc, World.size_alloc]
  have hM := h.below hb1
  have b0 : (o.f0 == 0) = false := beq_eq_false_iff_ne.mpr (by omega)
  have b1 : (o.f0 == 1) = false := beq_eq_false_iff_ne.mpr (by omega)
  have b2 : (o.f0 == 2) = false := beq_eq_false_iff_ne.mpr (by omega)
  have b3 : (o.f0 == 3) = false := beq_eq_false_iff_ne.mpr (by omega)
  have b5 : (o.f0 == 5) = false := beq_eq_false_iff_ne.mpr (by omega)
  have b4 : (o.f0 == 4) = true := beq_iff_eq.mpr hk
  replace hk := Aside0.mk hk
  replace hoa := Aside0.mk hoa
  go_enter Try.func30, Try.ntmps30
  go_upto_region 1 with fail
  generalize ((w.alloc (.cells #[.int .i64 o.f0, .int .i64 o.f1, .int .i64 o.f2, .int .u64 o.f3, .slice A o.f4.length c] 25 (0, 0))).alloc (.cells #[.int .i64 0, .int .i64 0, .slice none 0 0] 28 (0, 0))) = wc at *
  have k0 : wc.cell? ⟨w.heap.size, 0, none⟩ = some (.int .i64 o.f0) := (blk_cell q0 0).trans rfl
  have k1 : wc.cell? ⟨w.heap.size, 1, none⟩ = some (.int .i64 o.f1) := (blk_cell q0 1).trans rfl
  have k2 : wc.cell? ⟨w.heap.size, 2, none⟩ = some (.int .i64 o.f2) := (blk_cell q0 2).trans rfl
  have k3 : wc.cell? ⟨w.heap.size, 3, none⟩ = some (.int .u64 o.f3) := (blk_cell q0 3).trans rfl
  have k4 : wc.cell? ⟨w.heap.size, 4, none⟩ = some (.slice A o.f4.length c) := (blk_cell q0 4).trans rfl
  have hno : ¬ Mown mb L B (w.heap.size + 1) := fun hk => by have := (h.own_lt _ (.inr hk)).2; omega
  have hans := Aside0.mk (fun W (hW : Far (Mown mb L B) wc W) => hW.blk q1 hno)
  obtain ⟨ER, hER⟩ : ∃ e, e = (mayB L a (o.f4.length : Int) 2) := ⟨_, rfl⟩
  have hC := stored_calls base bb mb cnt D L B o.f0 o.f1 o.f2 a ha A c o.f4 hxs wc hM (fun W hW => hdat W ((Far.of_below hb1).then_ hW))
  rw [← hoa.out] at hC
  replace hC := Aside0.mk hC
  have hMN := Aside0.mk <| fun W (hm : MD W base bb mb cnt D (storeL L a o.f4) B ∧ Far (Mown mb L B) wc W) => (⟨(MN.of (.inl (storeL_ns L a o.f4)) hm.1.e hm.2).mono (Nat.le_succ cnt), hm.2⟩ : MN wc W base bb mb (cnt + 1) L (storeL L a o.f4) B ∧ _)
  replace hdat := Aside0.mk hdat
  replace hxs := Aside0.mk hxs
  replace h := Aside0.mk h
  replace hM := Aside0.mk hM
  replace hb1 := Aside0.mk hb1
  replace hz := Aside0.mk hz
  clear q0 q1 hno
  go_wp2_with (go_at_call 47; refine hC.out.mono ?_; rintro e w2 ⟨rfl, hmm⟩; obtain ⟨hm, hf2⟩ := hMN.out w2 hmm; replace hm := Aside0.mk hm; clear hmm; have p1 := hans.out _ hf2; have kc0 := (blk_cell p1 0).trans rfl; have kc1 := (blk_cell p1 1).trans rfl; have kc2 := (blk_cell p1 2).trans rfl; have f10 := blk_frozen p1 0; have f11 := blk_frozen p1 1; have f12 := blk_frozen p1 2; have hF := Aside0.mk (blk_put (cs' := #[.int .i64 (mayB L a (o.f4.length : Int) 2), .int .i64 0, (.slice none 0 0)]) (blk_put (cs' := #[.int .i64 (mayB L a (o.f4.length : Int) 2), .int .i64 0, .slice none 0 0]) (blk_put (cs' := #[.int .i64 (mayB L a (o.f4.length : Int) 2), .int .i64 0, .slice none 0 0]) p1 0 (.int .i64 (mayB L a (o.f4.length : Int) 2)) (by simp)) 1 (.int .i64 0) (by simp)) 2 (.slice none 0 0) (by simp)); clear p1 hf2)
  refine bodyPost_ret (results_single rfl (.cell (w.heap.size + 1) 28 _ (0, 0) _ rfl hF.out Try.underlying28 rfl (by kernel_rfl) .nil)) rfl ⟨_, rfl, DN.nil (MN.ans h.out hb1.out hz.out hm.out _ _ _)⟩

set_option maxHeartbeats 8000000 in
set_option maxRecDepth 100000 in
theorem does_load (base bb mb cnt : Nat) (D : DataW Unit) (L : List Pg) (B : Int → Nat × Nat) (o : S25) (A : Option Addr) (c : Nat) (a : Nat) (ha : a < 18446744073709551616) (hoa : o.f3 = (a : Int)) (w : World) (h : MD w base bb mb cnt D L B) (hcnt : cnt ≤ 1000000) (hk : o.f0 = 3) :
    Calls Try.prog 30 #[.pointer (some ⟨bb, 0, none⟩), .agg #[.int .i64 o.f0, .int .i64 o.f1, .int .i64 o.f2, .int .u64 o.f3, .slice A o.f4.length c]] w (Done w base bb mb (cnt + 1) L L B ((mayB L a o.f2 1)) (readD L a o.f2 1)) := by
  have hb1 := below_alloc (below_alloc (Below.refl _ w) (.cells #[.int .i64 o.f0, .int .i64 o.f1, .int .i64 o.f2, .int .u64 o.f3, .slice A o.f4.length c] 25 (0, 0))) (.cells #[.int .i64 0, .int .i64 0, .slice none 0 0] 28 (0, 0))
  have q0 := blk_alloc (blk_new w (.cells #[.int .i64 o.f0, .int .i64 o.f1, .int .i64 o.f2, .int .u64 o.f3, .slice A o.f4.length c] 25 (0, 0))) (.cells #[.int .i64 0, .int .i64 0, .slice none 0 0] 28 (0, 0))
  have q1 := blk_new (w.alloc (.cells #[.int .i64 o.f0, .int .i64 o.f1, .int .i64 o.f2, .int .u64 o.f3, .slice A o.f4.length c] 25 (0, 0))) (.cells #[.int .i64 0, .int .i64 0, .slice none 0 0] 28 (0, 0))
  rw [World.size_alloc] at q1
  have hz : ((w.alloc (.cells #[.int .i64 o.f0, .int .i64 o.f1, .int .i64 o.f2, .int .u64 o.f3, .slice A o.f4.length c] 25 (0, 0))).alloc (.cells #[.int .i64 0, .int .i64 0, .slice none 0 0] 28 (0, 0))).heap.size = w.heap.size + 2 := by rw [World.size_alloc, World.size_alloc]
  have hM := h.below hb1
  have b0 : (o.f0 == 0) = false := beq_eq_false_iff_ne.mpr (by omega)
  have b1 : (o.f0 == 1) = false := beq_eq_false_iff_ne.mpr (by omega)
  have b2 : (o.f0 == 2) = false := beq_eq_false_iff_ne.mpr (by omega)
  have b3 : (o.f0 == 3) = true := beq_iff_eq.mpr hk
  replace hk := Aside0.mk hk
  replace hoa := Aside0.mk hoa
  go_enter Try.func30, Try.ntmps30
  go_upto_region 1 with fail
  generalize ((w.alloc (.cells #[.int .i64 o.f0, .int .i64 o.f1, .int .i64 o.f2, .int .u64 o.f3, .slice A o.f4.length c] 25 (0, 0))).alloc (.cells #[.int .i64 0, .int .i64 0, .slice none 0 0] 28 (0, 0))) = wc at *
  have k0 : wc.cell? ⟨w.heap.size, 0, none⟩ = some (.int .i64 o.f0) := (blk_cell q0 0).trans rfl
  have k1 : wc.cell? ⟨w.heap.size, 1, none⟩ = some (.int .i64 o.f1) := (blk_cell q0 1).trans rfl
  have k2 : wc.cell? ⟨w.heap.size, 2, none⟩ = some (.int .i64 o.f2) := (blk_cell q0 2).trans rfl
  have k3 : wc.cell? ⟨w.heap.size, 3, none⟩ = some (.int .u64 o.f3) := (blk_cell q0 3).trans rfl
  have k4 : wc.cell? ⟨w.heap.size, 4, none⟩ = some (.slice A o.f4.length c) := (blk_cell q0 4).trans rfl
  have hno : ¬ Mown mb L B (w.heap.size + 1) := fun hk => by have := (h.own_lt _ (.inr hk)).2; omega
  have hans := Aside0.mk (fun W (hW : Far (Mown mb L B) wc W) => hW.blk q1 hno)
  have hC := read_calls base bb mb cnt D L B o.f0 o.f1 o.f2 a ha (.slice A o.f4.length c) 1 wc hM
  rw [← hoa.out] at hC
  replace hC := Aside0.mk hC
  have hMN := Aside0.mk <| fun W (hm : Below wc.heap.size wc W) => (MN.same (hM.mono (Nat.le_succ cnt)) hm : MN wc W base bb mb (cnt + 1) L L B)
  replace h := Aside0.mk h
  replace hM := Aside0.mk hM
  replace hb1 := Aside0.mk hb1
  replace hz := Aside0.mk hz
  clear q0 q1 hno
  go_wp2_with (go_at_call 46; refine hC.out.mono ?_; rintro e w2 ⟨v, rfl, hr, hbl⟩; have hm := hMN.out w2 hbl; have hf2 := hm.far; have hbl2 := Aside0.mk (hb1.out.trans (Below_low hbl (by rw [hz.out]; omega))); obtain ⟨Av, cv, hv⟩ := Kd.R_slice hr; subst hv; replace hm := Aside0.mk hm; replace hr := Aside0.mk (show RB w2 (w.heap.size + 2) (fun _ => True) _ _ by rw [← hz.out]; exact hr); clear hbl; have p1 := hans.out _ hf2; have kc0 := (blk_cell p1 0).trans rfl; have kc1 := (blk_cell p1 1).trans rfl; have kc2 := (blk_cell p1 2).trans rfl; have f10 := blk_frozen p1 0; have f11 := blk_frozen p1 1; have f12 := blk_frozen p1 2; have hF := Aside0.mk (blk_put (cs' := #[.int .i64 (mayB L a o.f2 1), .int .i64 0, (.slice Av (readD L a o.f2 1).length cv)]) (blk_put (cs' := #[.int .i64 (mayB L a o.f2 1), .int .i64 0, .slice none 0 0]) (blk_put (cs' := #[.int .i64 (mayB L a o.f2 1), .int .i64 0, .slice none 0 0]) p1 0 (.int .i64 (mayB L a o.f2 1)) (by simp)) 1 (.int .i64 0) (by simp)) 2 (.slice Av (readD L a o.f2 1).length cv) (by simp)); clear p1 hf2)
  refine bodyPost_ret (results_single rfl (.cell (w.heap.size + 1) 28 _ (0, 0) _ rfl hF.out Try.underlying28 rfl (by kernel_rfl) .nil)) rfl ⟨_, rfl, DN.read h.out (((hbl2.out.setCell (by show w.heap.size ≤ w.heap.size + 1; omega) _).setCell (by show w.heap.size ≤ w.heap.size + 1; omega) _).setCell (by show w.heap.size ≤ w.heap.size + 1; omega) _) (rb_ans hr.out _ _ _)⟩

set_option maxHeartbeats 8000000 in
set_option maxRecDepth 100000 in
theorem does_fetch (base bb mb cnt : Nat) (D : DataW Unit) (L : List Pg) (B : Int → Nat × Nat) (o : S25) (A : Option Addr) (c : Nat) (a : Nat) (ha : a < 18446744073709551616) (hoa : o.f3 = (a : Int)) (w : World) (h : MD w base bb mb cnt D L B) (hcnt : cnt ≤ 1000000) (hk : o.f0 = 5) :
    Calls Try.prog 30 #[.pointer (some ⟨bb, 0, none⟩), .agg #[.int .i64 o.f0, .int .i64 o.f1, .int .i64 o.f2, .int .u64 o.f3, .slice A o.f4.length c]] w (Done w base bb mb (cnt + 1) L L B ((mayB L a o.f2 4)) (readD L a o.f2 4)) := by
  have hb1 := below_alloc (below_alloc (Below.refl _ w) (.cells #[.int .i64 o.f0, .int .i64 o.f1, .int .i64 o.f2, .int .u64 o.f3, .slice A o.f4.length c] 25 (0, 0))) (.cells #[.int .i64 0, .int .i64 0, .slice none 0 0] 28 (0, 0))
  have q0 := blk_alloc (blk_new w (.cells #[.int .i64 o.f0, .int .i64 o.f1, .int .i64 o.f2, .int .u64 o.f3, .slice A o.f4.length c] 25 (0, 0))) (.cells #[.int .i64 0, .int .i64 0, .slice none 0 0] 28 (0, 0))
  have q1 := blk_new (w.alloc (.cells #[.int .i64 o.f0, .int .i64 o.f1, .int .i64 o.f2, .int .u64 o.f3, .slice A o.f4.length c] 25 (0, 0))) (.cells #[.int .i64 0, .int .i64 0, .slice none 0 0] 28 (0, 0))
  rw [World.size_alloc] at q1
  have hz : ((w.alloc (.cells #[.int .i64 o.f0, .int .i64 o.f1, .int .i64 o.f2, .int .u64 o.f3, .slice A o.f4.length c] 25 (0, 0))).alloc (.cells #[.int .i64 0, .int .i64 0, .slice none 0 0] 28 (0, 0))).heap.size = w.heap.size + 2 := by rw [World.size_alloc, World.size_alloc]
  have hM := h.below hb1
  have b0 : (o.f0 == 0) = false := beq_eq_false_iff_ne.mpr (by omega)
  have b1 : (o.f0 == 1) = false := beq_eq_false_iff_ne.mpr (by omega)
  have b2 : (o.f0 == 2) = false := beq_eq_false_iff_ne.mpr (by omega)
  have b3 : (o.f0 == 3) = false := beq_eq_false_iff_ne.mpr (by omega)
  have b5 : (o.f0 == 5) = true := beq_iff_eq.mpr hk
  replace hk := Aside0.mk hk
  replace hoa := Aside0.mk hoa
  go_enter Try.func30, Try.ntmps30
  go_upto_region 1 with fail
  generalize ((w.alloc (.cells #[.int .i64 o.f0, .int .i64 o.f1, .int .i64 o.f2, .int .u64 o.f3, .slice A o.f4.length c] 25 (0, 0))).alloc (.cells #[.int .i64 0, .int .i64 0, .slice none 0 0] 28 (0, 0))) = wc at *
  have k0 : wc.cell? ⟨w.heap.size, 0, none⟩ = some (.int .i64 o.f0) := (blk_cell q0 0).trans rfl
  have k1 : wc.cell? ⟨w.heap.size, 1, none⟩ = some (.int .i64 o.f1) := (blk_cell q0 1).trans rfl
  have k2 : wc.cell? ⟨w.heap.size, 2, none⟩ = some (.int .i64 o.f2) := (blk_cell q0 2).trans rfl
  have k3 : wc.cell? ⟨w.heap.size, 3, none⟩ = some (.int .u64 o.f3) := (blk_cell q0 3).trans rfl
  have k4 : wc.cell? ⟨w.heap.size, 4, none⟩ = some (.slice A o.f4.length c) := (blk_cell q0 4).trans rfl
  have hno : ¬ Mown mb L B (w.heap.size + 1) := fun hk => by have := (h.own_lt _ (.inr hk)).2; omega
  have hans := Aside0.mk (fun W (hW : Far (Mown mb L B) wc W) => hW.blk q1 hno)
  have hC := read_calls base bb mb cnt D L B o.f0 o.f1 o.f2 a ha (.slice A o.f4.length c) 4 wc hM
  rw [← hoa.out] at hC
  replace hC := Aside0.mk hC
  have hMN := Aside0.mk <| fun W (hm : Below wc.heap.size wc W) => (MN.same (hM.mono (Nat.le_succ cnt)) hm : MN wc W base bb mb (cnt + 1) L L B)
  replace h := Aside0.mk h
  replace hM := Aside0.mk hM
  replace hb1 := Aside0.mk hb1
  replace hz := Aside0.mk hz
  clear q0 q1 hno
  go_wp2_with (go_at_call 46; refine hC.out.mono ?_; rintro e w2 ⟨v, rfl, hr, hbl⟩; have hm := hMN.out w2 hbl; have hf2 := hm.far; have hbl2 := Aside0.mk (hb1.out.trans (Below_low hbl (by rw [hz.out]; omega))); obtain ⟨Av, cv, hv⟩ := Kd.R_slice hr; subst hv; replace hm := Aside0.mk hm; replace hr := Aside0.mk (show RB w2 (w.heap.size + 2) (fun _ => True) _ _ by rw [← hz.out]; exact hr); clear hbl; have p1 := hans.out _ hf2; have kc0 := (blk_cell p1 0).trans rfl; have kc1 := (blk_cell p1 1).trans rfl; have kc2 := (blk_cell p1 2).trans rfl; have f10 := blk_frozen p1 0; have f11 := blk_frozen p1 1; have f12 := blk_frozen p1 2; have hF := Aside0.mk (blk_put (cs' := #[.int .i64 (mayB L a o.f2 4), .int .i64 0, (.slice Av (readD L a o.f2 4).length cv)]) (blk_put (cs' := #[.int .i64 (mayB L a o.f2 4), .int .i64 0, .slice none 0 0]) (blk_put (cs' := #[.int .i64 (mayB L a o.f2 4), .int .i64 0, .slice none 0 0]) p1 0 (.int .i64 (mayB L a o.f2 4)) (by simp)) 1 (.int .i64 0) (by simp)) 2 (.slice Av (readD L a o.f2 4).length cv) (by simp)); clear p1 hf2)
  refine bodyPost_ret (results_single rfl (.cell (w.heap.size + 1) 28 _ (0, 0) _ rfl hF.out Try.underlying28 rfl (by kernel_rfl) .nil)) rfl ⟨_, rfl, DN.read h.out (((hbl2.out.setCell (by show w.heap.size ≤ w.heap.size + 1; omega) _).setCell (by show w.heap.size ≤ w.heap.size + 1; omega) _).setCell (by show w.heap.size ≤ w.heap.size + 1; omega) _) (rb_ans hr.out _ _ _)⟩

set_option maxHeartbeats 8000000 in
set_option maxRecDepth 100000 in
theorem does_limit_yes (base bb mb cnt : Nat) (D : DataW Unit) (L : List Pg) (B : Int → Nat × Nat) (o : S25) (A : Option Addr) (c : Nat) (a : Nat) (ha : a < 18446744073709551616) (hoa : o.f3 = (a : Int)) (w : World) (h : MD w base bb mb cnt D L B) (hcnt : cnt ≤ 1000000) (hk : o.f0 = 10) (hl : 4 ≤ o.f2 ∧ o.f2 ≤ 96) :
    Calls Try.prog 30 #[.pointer (some ⟨bb, 0, none⟩), .agg #[.int .i64 o.f0, .int .i64 o.f1, .int .i64 o.f2, .int .u64 o.f3, .slice A o.f4.length c]] w (Done w base bb mb (cnt + 1) L L B (0) ([])) := by
  have hb1 := below_alloc (below_alloc (Below.refl _ w) (.cells #[.int .i64 o.f0, .int .i64 o.f1, .int .i64 o.f2, .int .u64 o.f3, .slice A o.f4.length c] 25 (0, 0))) (.cells #[.int .i64 0, .int .i64 0, .slice none 0 0] 28 (0, 0))
  have q0 := blk_alloc (blk_new w (.cells #[.int .i64 o.f0, .int .i64 o.f1, .int .i64 o.f2, .int .u64 o.f3, .slice A o.f4.length c] 25 (0, 0))) (.cells #[.int .i64 0, .int .i64 0, .slice none 0 0] 28 (0, 0))
  have q1 := blk_new (w.alloc (.cells #[.int .i64 o.f0, .int .i64 o.f1, .int .i64 o.f2, .int .u64 o.f3, .slice A o.f4.length c] 25 (0, 0))) (.cells #[.int .i64 0, .int .i64 0, .slice none 0 0] 28 (0, 0))
  rw [World.size_alloc] at q1
  have hz : ((w.alloc (.cells #[.int .i64 o.f0, .int .i64 o.f1, .int .i64 o.f2, .int .u64 o.f3, .slice A o.f4.length c] 25 (0, 0))).alloc (.cells #[.int .i64 0, .int .i64 0, .slice none 0 0] 28 (0, 0))).heap.size = w.heap.size + 2 := by rw [World.size_alloc, World.size_alloc]
  have hM := h.below hb1
  have b0 : (o.f0 == 0) = false := beq_eq_false_iff_ne.mpr (by omega)
  have b1 : (o.f0 == 1) = false := beq_eq_false_iff_ne.mpr (by omega)
  have b2 : (o.f0 == 2) = false := beq_eq_false_iff_ne.mpr (by omega)
  have b3 : (o.f0 == 3) = false := beq_eq_false_iff_ne.mpr (by omega)
  have b5 : (o.f0 == 5) = false := beq_eq_false_iff_ne.mpr (by omega)
  have b4 : (o.f0 == 4) = false := beq_eq_false_iff_ne.mpr (by omega)
  have b10 : (o.f0 == 10) = true := beq_iff_eq.mpr hk
  replace hk := Aside0.mk hk
  replace hoa := Aside0.mk hoa
  go_enter Try.func30, Try.ntmps30
  go_upto_region 1 with fail
  generalize ((w.alloc (.cells #[.int .i64 o.f0, .int .i64 o.f1, .int .i64 o.f2, .int .u64 o.f3, .slice A o.f4.length c] 25 (0, 0))).alloc (.cells #[.int .i64 0, .int .i64 0, .slice none 0 0] 28 (0, 0))) = wc at *
  have k0 : wc.cell? ⟨w.heap.size, 0, none⟩ = some (.int .i64 o.f0) := (blk_cell q0 0).trans rfl
  have k1 : wc.cell? ⟨w.heap.size, 1, none⟩ = some (.int .i64 o.f1) := (blk_cell q0 1).trans rfl
  have k2 : wc.cell? ⟨w.heap.size, 2, none⟩ = some (.int .i64 o.f2) := (blk_cell q0 2).trans rfl
  have k3 : wc.cell? ⟨w.heap.size, 3, none⟩ = some (.int .u64 o.f3) := (blk_cell q0 3).trans rfl
  have k4 : wc.cell? ⟨w.heap.size, 4, none⟩ = some (.slice A o.f4.length c) := (blk_cell q0 4).trans rfl
  have hno : ¬ Mown mb L B (w.heap.size + 1) := fun hk => by have := (h.own_lt _ (.inr hk)).2; omega
  have hans := Aside0.mk (fun W (hW : Far (Mown mb L B) wc W) => hW.blk q1 hno)
  have d1 : decide (o.f2 ≥ 4) = true := decide_eq_true hl.1
  have d1' : decide (4 ≤ o.f2) = true := decide_eq_true hl.1
  have d2 : decide (o.f2 ≤ 96) = true := decide_eq_true hl.2
  have hm := Aside0.mk (MN.same (hM.mono (Nat.le_succ cnt)) (Below.refl _ _) : MN wc wc base bb mb (cnt + 1) L L B)
  replace h := Aside0.mk h
  replace hM := Aside0.mk hM
  replace hb1 := Aside0.mk hb1
  replace hz := Aside0.mk hz
  clear q0 q1 hno
  have hf2 : Far (Mown mb L B) wc wc := Far.refl _ _
  have p1 := hans.out _ hf2; have kc0 := (blk_cell p1 0).trans rfl; have kc1 := (blk_cell p1 1).trans rfl; have kc2 := (blk_cell p1 2).trans rfl; have f10 := blk_frozen p1 0; have f11 := blk_frozen p1 1; have f12 := blk_frozen p1 2; have hF := Aside0.mk (blk_put (cs' := #[.int .i64 0, .int .i64 0, (.slice none 0 0)]) (blk_put (cs' := #[.int .i64 0, .int .i64 0, .slice none 0 0]) (blk_put (cs' := #[.int .i64 0, .int .i64 0, .slice none 0 0]) p1 0 (.int .i64 0) (by simp)) 1 (.int .i64 0) (by simp)) 2 (.slice none 0 0) (by simp)); clear p1 hf2
  go_wp2_with (go_at_call 48; refine (wants_calls _ 1 _).mono ?_; rintro e w2 ⟨rfl, rfl⟩)
  refine bodyPost_ret (results_single rfl (.cell (w.heap.size + 1) 28 _ (0, 0) _ rfl hF.out Try.underlying28 rfl (by kernel_rfl) .nil)) rfl ⟨_, rfl, DN.nil (MN.ans h.out hb1.out hz.out hm.out _ _ _)⟩

set_option maxHeartbeats 8000000 in
set_option maxRecDepth 100000 in
theorem does_limit_low (base bb mb cnt : Nat) (D : DataW Unit) (L : List Pg) (B : Int → Nat × Nat) (o : S25) (A : Option Addr) (c : Nat) (a : Nat) (ha : a < 18446744073709551616) (hoa : o.f3 = (a : Int)) (w : World) (h : MD w base bb mb cnt D L B) (hcnt : cnt ≤ 1000000) (hk : o.f0 = 10) (hl : ¬ 4 ≤ o.f2) :
    Calls Try.prog 30 #[.pointer (some ⟨bb, 0, none⟩), .agg #[.int .i64 o.f0, .int .i64 o.f1, .int .i64 o.f2, .int .u64 o.f3, .slice A o.f4.length c]] w (Done w base bb mb (cnt + 1) L L B (1) ([])) := by
  have hb1 := below_alloc (below_alloc (Below.refl _ w) (.cells #[.int .i64 o.f0, .int .i64 o.f1, .int .i64 o.f2, .int .u64 o.f3, .slice A o.f4.length c] 25 (0, 0))) (.cells #[.int .i64 0, .int .i64 0, .slice none 0 0] 28 (0, 0))
  have q0 := blk_alloc (blk_new w (.cells #[.int .i64 o.f0, .int .i64 o.f1, .int .i64 o.f2, .int .u64 o.f3, .slice A o.f4.length c] 25 (0, 0))) (.cells #[.int .i64 0, .int .i64 0, .slice none 0 0] 28 (0, 0))
  have q1 := blk_new (w.alloc (.cells #[.int .i64 o.f0, .int .i64 o.f1, .int .i64 o.f2, .int .u64 o.f3, .slice A o.f4.length c] 25 (0, 0))) (.cells #[.int .i64 0, .int .i64 0, .slice none 0 0] 28 (0, 0))
  rw [World.size_alloc] at q1
  have hz : ((w.alloc (.cells #[.int .i64 o.f0, .int .i64 o.f1, .int .i64 o.f2, .int .u64 o.f3, .slice A o.f4.length c] 25 (0, 0))).alloc (.cells #[.int .i64 0, .int .i64 0, .slice none 0 0] 28 (0, 0))).heap.size = w.heap.size + 2 := by rw [World.size_alloc, World.size_alloc]
  have hM := h.below hb1
  have b0 : (o.f0 == 0) = false := beq_eq_false_iff_ne.mpr (by omega)
  have b1 : (o.f0 == 1) = false := beq_eq_false_iff_ne.mpr (by omega)
  have b2 : (o.f0 == 2) = false := beq_eq_false_iff_ne.mpr (by omega)
  have b3 : (o.f0 == 3) = false := beq_eq_false_iff_ne.mpr (by omega)
  have b5 : (o.f0 == 5) = false := beq_eq_false_iff_ne.mpr (by omega)
  have b4 : (o.f0 == 4) = false := beq_eq_false_iff_ne.mpr (by omega)
  have b10 : (o.f0 == 10) = true := beq_iff_eq.mpr hk
  replace hk := Aside0.mk hk
  replace hoa := Aside0.mk hoa
  go_enter Try.func30, Try.ntmps30
  go_upto_region 1 with fail
  generalize ((w.alloc (.cells #[.int .i64 o.f0, .int .i64 o.f1, .int .i64 o.f2, .int .u64 o.f3, .slice A o.f4.length c] 25 (0, 0))).alloc (.cells #[.int .i64 0, .int .i64 0, .slice none 0 0] 28 (0, 0))) = wc at *
  have k0 : wc.cell? ⟨w.heap.size, 0, none⟩ = some (.int .i64 o.f0) := (blk_cell q0 0).trans rfl
  have k1 : wc.cell? ⟨w.heap.size, 1, none⟩ = some (.int .i64 o.f1) := (blk_cell q0 1).trans rfl
  have k2 : wc.cell? ⟨w.heap.size, 2, none⟩ = some (.int .i64 o.f2) := (blk_cell q0 2).trans rfl
  have k3 : wc.cell? ⟨w.heap.size, 3, none⟩ = some (.int .u64 o.f3) := (blk_cell q0 3).trans rfl
  have k4 : wc.cell? ⟨w.heap.size, 4, none⟩ = some (.slice A o.f4.length c) := (blk_cell q0 4).trans rfl
  have hno : ¬ Mown mb L B (w.heap.size + 1) := fun hk => by have := (h.own_lt _ (.inr hk)).2; omega
  have hans := Aside0.mk (fun W (hW : Far (Mown mb L B) wc W) => hW.blk q1 hno)
  have d1 : decide (o.f2 ≥ 4) = false := decide_eq_false hl
  have d1' : decide (4 ≤ o.f2) = false := decide_eq_false hl
  have hm := Aside0.mk (MN.same (hM.mono (Nat.le_succ cnt)) (Below.refl _ _) : MN wc wc base bb mb (cnt + 1) L L B)
  replace h := Aside0.mk h
  replace hM := Aside0.mk hM
  replace hb1 := Aside0.mk hb1
  replace hz := Aside0.mk hz
  clear q0 q1 hno
  have hf2 : Far (Mown mb L B) wc wc := Far.refl _ _
  have p1 := hans.out _ hf2; have kc0 := (blk_cell p1 0).trans rfl; have kc1 := (blk_cell p1 1).trans rfl; have kc2 := (blk_cell p1 2).trans rfl; have f10 := blk_frozen p1 0; have f11 := blk_frozen p1 1; have f12 := blk_frozen p1 2; have hF := Aside0.mk (blk_put (cs' := #[.int .i64 1, .int .i64 0, (.slice none 0 0)]) (blk_put (cs' := #[.int .i64 1, .int .i64 0, .slice none 0 0]) (blk_put (cs' := #[.int .i64 1, .int .i64 0, .slice none 0 0]) p1 0 (.int .i64 1) (by simp)) 1 (.int .i64 0) (by simp)) 2 (.slice none 0 0) (by simp)); clear p1 hf2
  go_wp2_with (go_at_call 48; refine (wants_calls _ 1 _).mono ?_; rintro e w2 ⟨rfl, rfl⟩)
  refine bodyPost_ret (results_single rfl (.cell (w.heap.size + 1) 28 _ (0, 0) _ rfl hF.out Try.underlying28 rfl (by kernel_rfl) .nil)) rfl ⟨_, rfl, DN.nil (MN.ans h.out hb1.out hz.out hm.out _ _ _)⟩

set_option maxHeartbeats 8000000 in
set_option maxRecDepth 100000 in
theorem does_limit_high (base bb mb cnt : Nat) (D : DataW Unit) (L : List Pg) (B : Int → Nat × Nat) (o : S25) (A : Option Addr) (c : Nat) (a : Nat) (ha : a < 18446744073709551616) (hoa : o.f3 = (a : Int)) (w : World) (h : MD w base bb mb cnt D L B) (hcnt : cnt ≤ 1000000) (hk : o.f0 = 10) (hl : 4 ≤ o.f2) (hl2 : ¬ o.f2 ≤ 96) :
    Calls Try.prog 30 #[.pointer (some ⟨bb, 0, none⟩), .agg #[.int .i64 o.f0, .int .i64 o.f1, .int .i64 o.f2, .int .u64 o.f3, .slice A o.f4.length c]] w (Done w base bb mb (cnt + 1) L L B (1) ([])) := by
  have hb1 := below_alloc (below_alloc (Below.refl _ w) (.cells #[.int .i64 o.f0, .int .i64 o.f1, .int .i64 o.f2, .int .u64 o.f3, .slice A o.f4.length c] 25 (0, 0))) (.cells #[.int .i64 0, .int .i64 0, .slice none 0 0] 28 (0, 0))
  have q0 := blk_alloc (blk_new w (.cells #[.int .i64 o.f0, .int .i64 o.f1, .int .i64 o.f2, .int .u64 o.f3, .slice A o.f4.length c] 25 (0, 0))) (.cells #[.int .i64 0, .int .i64 0, .slice none 0 0] 28 (0, 0))
  have q1 := blk_new (w.alloc (.cells #[.int .i64 o.f0, .int .i64 o.f1, .int .i64 o.f2, .int .u64 o.f3, .slice A o.f4.length c] 25 (0, 0))) (.cells #[.int .i64 0, .int .i64 0, .slice none 0 0] 28 (0, 0))
  rw [World.size_alloc] at q1
  have hz : ((w.alloc (.cells #[.int .i64 o.f0, .int .i64 o.f1, .int .i64 o.f2, .int .u64 o.f3, .slice A o.f4.length c] 25 (0, 0))).alloc (.cells #[.int .i64 0, .int .i64 0, .slice none 0 0] 28 (0, 0))).heap.size = w.heap.size + 2 := by rw [World.size_alloc, World.size_alloc]
  have hM := h.below hb1
  have b0 : (o.f0 == 0) = false := beq_eq_false_iff_ne.mpr (by omega)
  have b1 : (o.f0 == 1) = false := beq_eq_false_iff_ne.mpr (by omega)
  have b2 : (o.f0 == 2) = false := beq_eq_false_iff_ne.mpr (by omega)
  have b3 : (o.f0 == 3) = false := beq_eq_false_iff_ne.mpr (by omega)
  have b5 : (o.f0 == 5) = false := beq_eq_false_iff_ne.mpr (by omega)
  have b4 : (o.f0 == 4) = false := beq_eq_false_iff_ne.mpr (by omega)
  have b10 : (o.f0 == 10) = true := beq_iff_eq.mpr hk
  replace hk := Aside0.mk hk
  replace hoa := Aside0.mk hoa
  go_enter Try.func30, Try.ntmps30
  go_upto_region 1 with fail
  generalize ((w.alloc (.cells #[.int .i64 o.f0, .int .i64 o.f1, .int .i64 o.f2, .int .u64 o.f3, .slice A o.f4.length c] 25 (0, 0))).alloc (.cells #[.int .i64 0, .int .i64 0, .slice none 0 0] 28 (0, 0))) = wc at *
  have k0 : wc.cell? ⟨w.heap.size, 0, none⟩ = some (.int .i64 o.f0) := (blk_cell q0 0).trans rfl
  have k1 : wc.cell? ⟨w.heap.size, 1, none⟩ = some (.int .i64 o.f1) := (blk_cell q0 1).trans rfl
  have k2 : wc.cell? ⟨w.heap.size, 2, none⟩ = some (.int .i64 o.f2) := (blk_cell q0 2).trans rfl
  have k3 : wc.cell? ⟨w.heap.size, 3, none⟩ = some (.int .u64 o.f3) := (blk_cell q0 3).trans rfl
  have k4 : wc.cell? ⟨w.heap.size, 4, none⟩ = some (.slice A o.f4.length c) := (blk_cell q0 4).trans rfl
  have hno : ¬ Mown mb L B (w.heap.size + 1) := fun hk => by have := (h.own_lt _ (.inr hk)).2; omega
  have hans := Aside0.mk (fun W (hW : Far (Mown mb L B) wc W) => hW.blk q1 hno)
  have d1 : decide (o.f2 ≥ 4) = true := decide_eq_true hl
  have d1' : decide (4 ≤ o.f2) = true := decide_eq_true hl
  have d2 : decide (o.f2 ≤ 96) = false := decide_eq_false hl2
  have hm := Aside0.mk (MN.same (hM.mono (Nat.le_succ cnt)) (Below.refl _ _) : MN wc wc base bb mb (cnt + 1) L L B)
  replace h := Aside0.mk h
  replace hM := Aside0.mk hM
  replace hb1 := Aside0.mk hb1
  replace hz := Aside0.mk hz
  clear q0 q1 hno
  have hf2 : Far (Mown mb L B) wc wc := Far.refl _ _
  have p1 := hans.out _ hf2; have kc0 := (blk_cell p1 0).trans rfl; have kc1 := (blk_cell p1 1).trans rfl; have kc2 := (blk_cell p1 2).trans rfl; have f10 := blk_frozen p1 0; have f11 := blk_frozen p1 1; have f12 := blk_frozen p1 2; have hF := Aside0.mk (blk_put (cs' := #[.int .i64 1, .int .i64 0, (.slice none 0 0)]) (blk_put (cs' := #[.int .i64 1, .int .i64 0, .slice none 0 0]) (blk_put (cs' := #[.int .i64 1, .int .i64 0, .slice none 0 0]) p1 0 (.int .i64 1) (by simp)) 1 (.int .i64 0) (by simp)) 2 (.slice none 0 0) (by simp)); clear p1 hf2
  go_wp2_with (go_at_call 48; refine (wants_calls _ 1 _).mono ?_; rintro e w2 ⟨rfl, rfl⟩)
  refine bodyPost_ret (results_single rfl (.cell (w.heap.size + 1) 28 _ (0, 0) _ rfl hF.out Try.underlying28 rfl (by kernel_rfl) .nil)) rfl ⟨_, rfl, DN.nil (MN.ans h.out hb1.out hz.out hm.out _ _ _)⟩

set_option maxHeartbeats 8000000 in
set_option maxRecDepth 100000 in
theorem does_reclaim (base bb mb cnt : Nat) (D : DataW Unit) (L : List Pg) (B : Int → Nat × Nat) (o : S25) (A : Option Addr) (c : Nat) (a : Nat) (ha : a < 18446744073709551616) (hoa : o.f3 = (a : Int)) (w : World) (h : MD w base bb mb cnt D L B) (hcnt : cnt ≤ 1000000) (hk : o.f0 = 6) :
    Calls Try.prog 30 #[.pointer (some ⟨bb, 0, none⟩), .agg #[.int .i64 o.f0, .int .i64 o.f1, .int .i64 o.f2, .int .u64 o.f3, .slice A o.f4.length c]] w (Done w base bb mb (cnt + 1) L L B (0) ([])) := by
  have hb1 := below_alloc (below_alloc (Below.refl _ w) (.cells #[.int .i64 o.f0, .int .i64 o.f1, .int .i64 o.f2, .int .u64 o.f3, .slice A o.f4.length c] 25 (0, 0))) (.cells #[.int .i64 0, .int .i64 0, .slice none 0 0] 28 (0, 0))
  have q0 := blk_alloc (blk_new w (.cells #[.int .i64 o.f0, .int .i64 o.f1, .int .i64 o.f2, .int .u64 o.f3, .slice A o.f4.length c] 25 (0, 0))) (.cells #[.int .i64 0, .int .i64 0, .slice none 0 0] 28 (0, 0))
  have q1 := blk_new (w.alloc (.cells #[.int .i64 o.f0, .int .i64 o.f1, .int .i64 o.f2, .int .u64 o.f3, .slice A o.f4.length c] 25 (0, 0))) (.cells #[.int .i64 0, .int .i64 0, .slice none 0 0] 28 (0, 0))
  rw [World.size_alloc] at q1
  have hz : ((w.alloc (.cells #[.int .i64 o.f0, .int .i64 o.f1, .int .i64 o.f2, .int .u64 o.f3, .slice A o.f4.length c] 25 (0, 0))).alloc (.cells #[.int .i64 0, .int .i64 0, .slice none 0 0] 28 (0, 0))).heap.size = w.heap.size + 2 := by rw [World.size_alloc, World.size_alloc]
  have hM := h.below hb1
  have b0 : (o.f0 == 0) = false := beq_eq_false_iff_ne.mpr (by omega)
  have b1 : (o.f0 == 1) = false := beq_eq_false_iff_ne.mpr (by omega)
  have b2 : (o.f0 == 2) = false := beq_eq_false_iff_ne.mpr (by omega)
  have b3 : (o.f0 == 3) = false := beq_eq_false_iff_ne.mpr (by omega)
  have b5 : (o.f0 == 5) = false := beq_eq_false_iff_ne.mpr (by omega)
  have b4 : (o.f0 == 4) = false := beq_eq_false_iff_ne.mpr (by omega)
  have b10 : (o.f0 == 10) = false := beq_eq_false_iff_ne.mpr (by omega)
  have b6 : (o.f0 == 6) = true := beq_iff_eq.mpr hk
  replace hk := Aside0.mk hk
  replace hoa := Aside0.mk hoa
  go_enter Try.func30, Try.ntmps30
  go_upto_region 1 with fail
  generalize ((w.alloc (.cells #[.int .i64 o.f0, .int .i64 o.f1, .int .i64 o.f2, .int .u64 o.f3, .slice A o.f4.length c] 25 (0, 0))).alloc (.cells #[.int .i64 0, .int .i64 0, .slice none 0 0] 28 (0, 0))) = wc at *
  have k0 : wc.cell? ⟨w.heap.size, 0, none⟩ = some (.int .i64 o.f0) := (blk_cell q0 0).trans rfl
  have k1 : wc.cell? ⟨w.heap.size, 1, none⟩ = some (.int .i64 o.f1) := (blk_cell q0 1).trans rfl
  have k2 : wc.cell? ⟨w.heap.size, 2, none⟩ = some (.int .i64 o.f2) := (blk_cell q0 2).trans rfl
  have k3 : wc.cell? ⟨w.heap.size, 3, none⟩ = some (.int .u64 o.f3) := (blk_cell q0 3).trans rfl
  have k4 : wc.cell? ⟨w.heap.size, 4, none⟩ = some (.slice A o.f4.length c) := (blk_cell q0 4).trans rfl
  have hno : ¬ Mown mb L B (w.heap.size + 1) := fun hk => by have := (h.own_lt _ (.inr hk)).2; omega
  have hans := Aside0.mk (fun W (hW : Far (Mown mb L B) wc W) => hW.blk q1 hno)
  have hm := Aside0.mk (MN.same (hM.mono (Nat.le_succ cnt)) (Below.refl _ _) : MN wc wc base bb mb (cnt + 1) L L B)
  replace h := Aside0.mk h
  replace hM := Aside0.mk hM
  replace hb1 := Aside0.mk hb1
  replace hz := Aside0.mk hz
  clear q0 q1 hno
  have hf2 : Far (Mown mb L B) wc wc := Far.refl _ _
  have p1 := hans.out _ hf2; have kc0 := (blk_cell p1 0).trans rfl; have kc1 := (blk_cell p1 1).trans rfl; have kc2 := (blk_cell p1 2).trans rfl; have f10 := blk_frozen p1 0; have f11 := blk_frozen p1 1; have f12 := blk_frozen p1 2; have hF := Aside0.mk (blk_put (cs' := #[.int .i64 0, .int .i64 0, (.slice none 0 0)]) (blk_put (cs' := #[.int .i64 0, .int .i64 0, .slice none 0 0]) (blk_put (cs' := #[.int .i64 0, .int .i64 0, .slice none 0 0]) p1 0 (.int .i64 0) (by simp)) 1 (.int .i64 0) (by simp)) 2 (.slice none 0 0) (by simp)); clear p1 hf2
  go_wp2
  refine bodyPost_ret (results_single rfl (.cell (w.heap.size + 1) 28 _ (0, 0) _ rfl hF.out Try.underlying28 rfl (by kernel_rfl) .nil)) rfl ⟨_, rfl, DN.nil (MN.ans h.out hb1.out hz.out hm.out _ _ _)⟩

set_option maxHeartbeats 8000000 in
set_option maxRecDepth 100000 in
theorem does_compact (base bb mb cnt : Nat) (D : DataW Unit) (L : List Pg) (B : Int → Nat × Nat) (o : S25) (A : Option Addr) (c : Nat) (a : Nat) (ha : a < 18446744073709551616) (hoa : o.f3 = (a : Int)) (w : World) (h : MD w base bb mb cnt D L B) (hcnt : cnt ≤ 1000000) (hk : o.f0 = 7) :
    Calls Try.prog 30 #[.pointer (some ⟨bb, 0, none⟩), .agg #[.int .i64 o.f0, .int .i64 o.f1, .int .i64 o.f2, .int .u64 o.f3, .slice A o.f4.length c]] w (Done w base bb mb (cnt + 1) L L B (0) ([])) := by
  have hb1 := below_alloc (below_alloc (Below.refl _ w) (.cells #[.int .i64 o.f0, .int .i64 o.f1, .int .i64 o.f2, .int .u64 o.f3, .slice A o.f4.length c] 25 (0, 0))) (.cells #[.int .i64 0, .int .i64 0, .slice none 0 0] 28 (0, 0))
  have q0 := blk_alloc (blk_new w (.cells #[.int .i64 o.f0, .int .i64 o.f1, .int .i64 o.f2, .int .u64 o.f3, .slice A o.f4.length c] 25 (0, 0))) (.cells #[.int .i64 0, .int .i64 0, .slice none 0 0] 28 (0, 0))
  have q1 := blk_new (w.alloc (.cells #[.int .i64 o.f0, .int .i64 o.f1, .int .i64 o.f2, .int .u64 o.f3, .slice A o.f4.length c] 25 (0, 0))) (.cells #[.int .i64 0, .int .i64 0, .slice none 0 0] 28 (0, 0))
  rw [World.size_alloc] at q1
  have hz : ((w.alloc (.cells #[.int .i64 o.f0, .int .i64 o.f1, .int .i64 o.f2, .int .u64 o.f3, .slice A o.f4.length c] 25 (0, 0))).alloc (.cells #[.int .i64 0, .int .i64 0, .slice none 0 0] 28 (0, 0))).heap.size = w.heap.size + 2 := by rw [World.size_alloc, World.size_alloc]
  have hM := h.below hb1
  have b0 : (o.f0 == 0) = false := beq_eq_false_iff_ne.mpr (by omega)
  have b1 : (o.f0 == 1) = false := beq_eq_false_iff_ne.mpr (by omega)
  have b2 : (o.f0 == 2) = false := beq_eq_false_iff_ne.mpr (by omega)
  have b3 : (o.f0 == 3) = false := beq_eq_false_iff_ne.mpr (by omega)
  have b5 : (o.f0 == 5) = false := beq_eq_false_iff_ne.mpr (by omega)
  have b4 : (o.f0 == 4) = false := beq_eq_false_iff_ne.mpr (by omega)
  have b10 : (o.f0 == 10) = false := beq_eq_false_iff_ne.mpr (by omega)
  have b6 : (o.f0 == 6) = false := beq_eq_false_iff_ne.mpr (by omega)
  have b7 : (o.f0 == 7) = true := beq_iff_eq.mpr hk
  replace hk := Aside0.mk hk
  replace hoa := Aside0.mk hoa
  go_enter Try.func30, Try.ntmps30
  go_upto_region 1 with fail
  generalize ((w.alloc (.cells #[.int .i64 o.f0, .int .i64 o.f1, .int .i64 o.f2, .int .u64 o.f3, .slice A o.f4.length c] 25 (0, 0))).alloc (.cells #[.int .i64 0, .int .i64 0, .slice none 0 0] 28 (0, 0))) = wc at *
  have k0 : wc.cell? ⟨w.heap.size, 0, none⟩ = some (.int .i64 o.f0) := (blk_cell q0 0).trans rfl
  have k1 : wc.cell? ⟨w.heap.size, 1, none⟩ = some (.int .i64 o.f1) := (blk_cell q0 1).trans rfl
  have k2 : wc.cell? ⟨w.heap.size, 2, none⟩ = some (.int .i64 o.f2) := (blk_cell q0 2).trans rfl
  have k3 : wc.cell? ⟨w.heap.size, 3, none⟩ = some (.int .u64 o.f3) := (blk_cell q0 3).trans rfl
  have k4 : wc.cell? ⟨w.heap.size, 4, none⟩ = some (.slice A o.f4.length c) := (blk_cell q0 4).trans rfl
  have hno : ¬ Mown mb L B (w.heap.size + 1) := fun hk => by have := (h.own_lt _ (.inr hk)).2; omega
  have hans := Aside0.mk (fun W (hW : Far (Mown mb L B) wc W) => hW.blk q1 hno)
  have hm := Aside0.mk (MN.same (hM.mono (Nat.le_succ cnt)) (Below.refl _ _) : MN wc wc base bb mb (cnt + 1) L L B)
  replace h := Aside0.mk h
  replace hM := Aside0.mk hM
  replace hb1 := Aside0.mk hb1
  replace hz := Aside0.mk hz
  clear q0 q1 hno
  have hf2 : Far (Mown mb L B) wc wc := Far.refl _ _
  have p1 := hans.out _ hf2; have kc0 := (blk_cell p1 0).trans rfl; have kc1 := (blk_cell p1 1).trans rfl; have kc2 := (blk_cell p1 2).trans rfl; have f10 := blk_frozen p1 0; have f11 := blk_frozen p1 1; have f12 := blk_frozen p1 2; have hF := Aside0.mk (blk_put (cs' := #[.int .i64 0, .int .i64 0, (.slice none 0 0)]) (blk_put (cs' := #[.int .i64 0, .int .i64 0, .slice none 0 0]) (blk_put (cs' := #[.int .i64 0, .int .i64 0, .slice none 0 0]) p1 0 (.int .i64 0) (by simp)) 1 (.int .i64 0) (by simp)) 2 (.slice none 0 0) (by simp)); clear p1 hf2
  go_wp2
  refine bodyPost_ret (results_single rfl (.cell (w.heap.size + 1) 28 _ (0, 0) _ rfl hF.out Try.underlying28 rfl (by kernel_rfl) .nil)) rfl ⟨_, rfl, DN.nil (MN.ans h.out hb1.out hz.out hm.out _ _ _)⟩

set_option maxHeartbeats 8000000 in
set_option maxRecDepth 100000 in
theorem does_writeback (base bb mb cnt : Nat) (D : DataW Unit) (L : List Pg) (B : Int → Nat × Nat) (o : S25) (A : Option Addr) (c : Nat) (a : Nat) (ha : a < 18446744073709551616) (hoa : o.f3 = (a : Int)) (w : World) (h : MD w base bb mb cnt D L B) (hcnt : cnt ≤ 1000000) (hk : o.f0 = 8) :
    Calls Try.prog 30 #[.pointer (some ⟨bb, 0, none⟩), .agg #[.int .i64 o.f0, .int .i64 o.f1, .int .i64 o.f2, .int .u64 o.f3, .slice A o.f4.length c]] w (Done w base bb mb (cnt + 1) L L B (0) ([])) := by
  have hb1 := below_alloc (below_alloc (Below.refl _ w) (.cells #[.int .i64 o.f0, .int .i64 o.f1, .int .i64 o.f2, .int .u64 o.f3, .slice A o.f4.length c] 25 (0, 0))) (.cells #[.int .i64 0, .int .i64 0, .slice none 0 0] 28 (0, 0))
  have q0 := blk_alloc (blk_new w (.cells #[.int .i64 o.f0, .int .i64 o.f1, .int .i64 o.f2, .int .u64 o.f3, .slice A o.f4.length c] 25 (0, 0))) (.cells #[.int .i64 0, .int .i64 0, .slice none 0 0] 28 (0, 0))
  have q1 := blk_new (w.alloc (.cells #[.int .i64 o.f0, .int .i64 o.f1, .int .i64 o.f2, .int .u64 o.f3, .slice A o.f4.length c] 25 (0, 0))) (.cells #[.int .i64 0, .int .i64 0, .slice none 0 0] 28 (0, 0))
  rw [World.size_alloc] at q1
  have hz : ((w.alloc (.cells #[.int .i64 o.f0, .int .i64 o.f1, .int .i64 o.f2, .int .u64 o.f3, .slice A o.f4.length c] 25 (0, 0))).alloc (.cells #[.int .i64 0, .int .i64 0, .slice none 0 0] 28 (0, 0))).heap.size = w.heap.size + 2 := by rw [World.size_alloc, World.size_alloc]
  have hM := h.below hb1
  have b0 : (o.f0 == 0) = false := beq_eq_false_iff_ne.mpr (by omega)
  have b1 : (o.f0 == 1) = false := beq_eq_false_iff_ne.mpr (by omega)
  have b2 : (o.f0 == 2) = false := beq_eq_false_iff_ne.mpr (by omega)
  have b3 : (o.f0 == 3) = false := beq_eq_false_iff_ne.mpr (by omega)
  have b5 : (o.f0 == 5) = false := beq_eq_false_iff_ne.mpr (by omega)
  have b4 : (o.f0 == 4) = false := beq_eq_false_iff_ne.mpr (by omega)
  have b10 : (o.f0 == 10) = false := beq_eq_false_iff_ne.mpr (by omega)
  have b6 : (o.f0 == 6) = false := beq_eq_false_iff_ne.mpr (by omega)
  have b7 : (o.f0 == 7) = false := beq_eq_false_iff_ne.mpr (by omega)
  have b8 : (o.f0 == 8) = true := beq_iff_eq.mpr hk
  replace hk := Aside0.mk hk
  replace hoa := Aside0.mk hoa
  go_enter Try.func30, Try.ntmps30
  go_upto_region 1 with fail
  generalize ((w.alloc (.cells #[.int .i64 o.f0, .int .i64 o.f1, .int .i64 o.f2, .int .u64 o.f3, .slice A o.f4.length c] 25 (0, 0))).alloc (.cells #[.int .i64 0, .int .i64 0, .slice none 0 0] 28 (0, 0))) = wc at *
  have k0 : wc.cell? ⟨w.heap.size, 0, none⟩ = some (.int .i64 o.f0) := (blk_cell q0 0).trans rfl
  have k1 : wc.cell? ⟨w.heap.size, 1, none⟩ = some (.int .i64 o.f1) := (blk_cell q0 1).trans rfl
  have k2 : wc.cell? ⟨w.heap.size, 2, none⟩ = some (.int .i64 o.f2) := (blk_cell q0 2).trans rfl
  have k3 : wc.cell? ⟨w.heap.size, 3, none⟩ = some (.int .u64 o.f3) := (blk_cell q0 3).trans rfl
  have k4 : wc.cell? ⟨w.heap.size, 4, none⟩ = some (.slice A o.f4.length c) := (blk_cell q0 4).trans rfl
  have hno : ¬ Mown mb L B (w.heap.size + 1) := fun hk => by have := (h.own_lt _ (.inr hk)).2; omega
  have hans := Aside0.mk (fun W (hW : Far (Mown mb L B) wc W) => hW.blk q1 hno)
  have hm := Aside0.mk (MN.same (hM.mono (Nat.le_succ cnt)) (Below.refl _ _) : MN wc wc base bb mb (cnt + 1) L L B)
  replace h := Aside0.mk h
  replace hM := Aside0.mk hM
  replace hb1 := Aside0.mk hb1
  replace hz := Aside0.mk hz
  clear q0 q1 hno
  have hf2 : Far (Mown mb L B) wc wc := Far.refl _ _
  have p1 := hans.out _ hf2; have kc0 := (blk_cell p1 0).trans rfl; have kc1 := (blk_cell p1 1).trans rfl; have kc2 := (blk_cell p1 2).trans rfl; have f10 := blk_frozen p1 0; have f11 := blk_frozen p1 1; have f12 := blk_frozen p1 2; have hF := Aside0.mk (blk_put (cs' := #[.int .i64 0, .int .i64 0, (.slice none 0 0)]) (blk_put (cs' := #[.int .i64 0, .int .i64 0, .slice none 0 0]) (blk_put (cs' := #[.int .i64 0, .int .i64 0, .slice none 0 0]) p1 0 (.int .i64 0) (by simp)) 1 (.int .i64 0) (by simp)) 2 (.slice none 0 0) (by simp)); clear p1 hf2
  go_wp2
  refine bodyPost_ret (results_single rfl (.cell (w.heap.size + 1) 28 _ (0, 0) _ rfl hF.out Try.underlying28 rfl (by kernel_rfl) .nil)) rfl ⟨_, rfl, DN.nil (MN.ans h.out hb1.out hz.out hm.out _ _ _)⟩

set_option maxHeartbeats 8000000 in
set_option maxRecDepth 100000 in
theorem does_shrink (base bb mb cnt : Nat) (D : DataW Unit) (L : List Pg) (B : Int → Nat × Nat) (o : S25) (A : Option Addr) (c : Nat) (a : Nat) (ha : a < 18446744073709551616) (hoa : o.f3 = (a : Int)) (w : World) (h : MD w base bb mb cnt D L B) (hcnt : cnt ≤ 1000000) (hk : o.f0 = 9) :
    Calls Try.prog 30 #[.pointer (some ⟨bb, 0, none⟩), .agg #[.int .i64 o.f0, .int .i64 o.f1, .int .i64 o.f2, .int .u64 o.f3, .slice A o.f4.length c]] w (Done w base bb mb (cnt + 1) L L B (0) ([])) := by
  have hb1 := below_alloc (below_alloc (Below.refl _ w) (.cells #[.int .i64 o.f0, .int .i64 o.f1, .int .i64 o.f2, .int .u64 o.f3, .slice A o.f4.length c] 25 (0, 0))) (.cells #[.int .i64 0, .int .i64 0, .slice none 0 0] 28 (0, 0))
  have q0 := blk_alloc (blk_new w (.cells #[.int .i64 o.f0, .int .i64 o.f1, .int .i64 o.f2, .int .u64 o.f3, .slice A o.f4.length c] 25 (0, 0))) (.cells #[.int .i64 0, .int .i64 0, .slice none 0 0] 28 (0, 0))
  have q1 := blk_new (w.alloc (.cells #[.int .i64 o.f0, .int .i64 o.f1, .int .i64 o.f2, .int .u64 o.f3, .slice A o.f4.length c] 25 (0, 0))) (.cells #[.int .i64 0, .int .i64 0, .slice none 0 0] 28 (0, 0))
  rw [World.size_alloc] at q1
  have hz : ((w.alloc (.cells #[.int .i64 o.f0, .int .i64 o.f1, .int .i64 o.f2, .int .u64 o.f3, .slice A o.f4.length c] 25 (0, 0))).alloc (.cells #[.int .i64 0, .int .i64 0, .slice none 0 0] 28 (0, 0))).heap.size = w.heap.size + 2 := by rw [World.size_alloc, World.size_alloc]
  have hM := h.below hb1
  have b0 : (o.f0 == 0) = false := beq_eq_false_iff_ne.mpr (by omega)
  have b1 : (o.f0 == 1) = false := beq_eq_false_iff_ne.mpr (by omega)
  have b2 : (o.f0 == 2) = false := beq_eq_false_iff_ne.mpr (by omega)
  have b3 : (o.f0 == 3) = false := beq_eq_false_iff_ne.mpr (by omega)
  have b5 : (o.f0 == 5) = false := beq_eq_false_iff_ne.mpr (by omega)
  have b4 : (o.f0 == 4) = false := beq_eq_false_iff_ne.mpr (by omega)
  have b10 : (o.f0 == 10) = false := beq_eq_false_iff_ne.mpr (by omega)
  have b6 : (o.f0 == 6) = false := beq_eq_false_iff_ne.mpr (by omega)
  have b7 : (o.f0 == 7) = false := beq_eq_false_iff_ne.mpr (by omega)
  have b8 : (o.f0 == 8) = false := beq_eq_false_iff_ne.mpr (by omega)
  have b9 : (o.f0 == 9) = true := beq_iff_eq.mpr hk
  replace hk := Aside0.mk hk
  replace hoa := Aside0.mk hoa
  go_enter Try.func30, Try.ntmps30
  go_upto_region 1 with fail
  generalize ((w.alloc (.cells #[.int .i64 o.f0, .int .i64 o.f1, .int .i64 o.f2, .int .u64 o.f3, .slice A o.f4.length c] 25 (0, 0))).alloc (.cells #[.int .i64 0, .int .i64 0, .slice none 0 0] 28 (0, 0))) = wc at *
  have k0 : wc.cell? ⟨w.heap.size, 0, none⟩ = some (.int .i64 o.f0) := (blk_cell q0 0).trans rfl
  have k1 : wc.cell? ⟨w.heap.size, 1, none⟩ = some (.int .i64 o.f1) := (blk_cell q0 1).trans rfl
  have k2 : wc.cell? ⟨w.heap.size, 2, none⟩ = some (.int .i64 o.f2) := (blk_cell q0 2).trans rfl
  have k3 : wc.cell? ⟨w.heap.size, 3, none⟩ = some (.int .u64 o.f3) := (blk_cell q0 3).trans rfl
  have k4 : wc.cell? ⟨w.heap.size, 4, none⟩ = some (.slice A o.f4.length c) := (blk_cell q0 4).trans rfl
  have hno : ¬ Mown mb L B (w.heap.size + 1) := fun hk => by have := (h.own_lt _ (.inr hk)).2; omega
  have hans := Aside0.mk (fun W (hW : Far (Mown mb L B) wc W) => hW.blk q1 hno)
  have hm := Aside0.mk (MN.same (hM.mono (Nat.le_succ cnt)) (Below.refl _ _) : MN wc wc base bb mb (cnt + 1) L L B)
  replace h := Aside0.mk h
  replace hM := Aside0.mk hM
  replace hb1 := Aside0.mk hb1
  replace hz := Aside0.mk hz
  clear q0 q1 hno
  have hf2 : Far (Mown mb L B) wc wc := Far.refl _ _
  have p1 := hans.out _ hf2; have kc0 := (blk_cell p1 0).trans rfl; have kc1 := (blk_cell p1 1).trans rfl; have kc2 := (blk_cell p1 2).trans rfl; have f10 := blk_frozen p1 0; have f11 := blk_frozen p1 1; have f12 := blk_frozen p1 2; have hF := Aside0.mk (blk_put (cs' := #[.int .i64 0, .int .i64 0, (.slice none 0 0)]) (blk_put (cs' := #[.int .i64 0, .int .i64 0, .slice none 0 0]) (blk_put (cs' := #[.int .i64 0, .int .i64 0, .slice none 0 0]) p1 0 (.int .i64 0) (by simp)) 1 (.int .i64 0) (by simp)) 2 (.slice none 0 0) (by simp)); clear p1 hf2
  go_wp2
  refine bodyPost_ret (results_single rfl (.cell (w.heap.size + 1) 28 _ (0, 0) _ rfl hF.out Try.underlying28 rfl (by kernel_rfl) .nil)) rfl ⟨_, rfl, DN.nil (MN.ans h.out hb1.out hz.out hm.out _ _ _)⟩

set_option maxHeartbeats 8000000 in
set_option maxRecDepth 100000 in
theorem does_none (base bb mb cnt : Nat) (D : DataW Unit) (L : List Pg) (B : Int → Nat × Nat) (o : S25) (A : Option Addr) (c : Nat) (a : Nat) (ha : a < 18446744073709551616) (hoa : o.f3 = (a : Int)) (w : World) (h : MD w base bb mb cnt D L B) (hcnt : cnt ≤ 1000000) (hk : o.f0 < 0 ∨ 10 < o.f0) :
    Calls Try.prog 30 #[.pointer (some ⟨bb, 0, none⟩), .agg #[.int .i64 o.f0, .int .i64 o.f1, .int .i64 o.f2, .int .u64 o.f3, .slice A o.f4.length c]] w (Done w base bb mb (cnt + 1) L L B (1) ([])) := by
  have hb1 := below_alloc (below_alloc (Below.refl _ w) (.cells #[.int .i64 o.f0, .int .i64 o.f1, .int .i64 o.f2, .int .u64 o.f3, .slice A o.f4.length c] 25 (0, 0))) (.cells #[.int .i64 0, .int .i64 0, .slice none 0 0] 28 (0, 0))
  have q0 := blk_alloc (blk_new w (.cells #[.int .i64 o.f0, .int .i64 o.f1, .int .i64 o.f2, .int .u64 o.f3, .slice A o.f4.length c] 25 (0, 0))) (.cells #[.int .i64 0, .int .i64 0, .slice none 0 0] 28 (0, 0))
  have q1 := blk_new (w.alloc (.cells #[.int .i64 o.f0, .int .i64 o.f1, .int .i64 o.f2, .int .u64 o.f3, .slice A o.f4.length c] 25 (0, 0))) (.cells #[.int .i64 0, .int .i64 0, .slice none 0 0] 28 (0, 0))
  rw [World.size_alloc] at q1
  have hz : ((w.alloc (.cells #[.int .i64 o.f0, .int .i64 o.f1, .int .i64 o.f2, .int .u64 o.f3, .slice A o.f4.length c] 25 (0, 0))).alloc (.cells #[.int .i64 0, .int .i64 0, .slice none 0 0] 28 (0, 0))).heap.size = w.heap.size + 2 := by rw [World.size_alloc, World.size_alloc]
  have hM := h.below hb1
  have b0 : (o.f0 == 0) = false := beq_eq_false_iff_ne.mpr (by omega)
  have b1 : (o.f0 == 1) = false := beq_eq_false_iff_ne.mpr (by omega)
  have b2 : (o.f0 == 2) = false := beq_eq_false_iff_ne.mpr (by omega)
  have b3 : (o.f0 == 3) = false := beq_eq_false_iff_ne.mpr (by omega)
  have b5 : (o.f0 == 5) = false := beq_eq_false_iff_ne.mpr (by omega)
  have b4 : (o.f0 == 4) = false := beq_eq_false_iff_ne.mpr (by omega)
  have b10 : (o.f0 == 10) = false := beq_eq_false_iff_ne.mpr (by omega)
  have b6 : (o.f0 == 6) = false := beq_eq_false_iff_ne.mpr (by omega)
  have b7 : (o.f0 == 7) = false := beq_eq_false_iff_ne.mpr (by omega)
  have b8 : (o.f0 == 8) = false := beq_eq_false_iff_ne.mpr (by omega)
  have b9 : (o.f0 == 9) = false := beq_eq_false_iff_ne.mpr (by omega)
  replace hk := Aside0.mk hk
  replace hoa := Aside0.mk hoa
  go_enter Try.func30, Try.ntmps30
  go_upto_region 1 with fail
  generalize ((w.alloc (.cells #[.int .i64 o.f0, .int .i64 o.f1, .int .i64 o.f2, .int .u64 o.f3, .slice A o.f4.length c] 25 (0, 0))).alloc (.cells #[.int .i64 0, .int .i64 0, .slice none 0 0] 28 (0, 0))) = wc at *
  have k0 : wc.cell? ⟨w.heap.size, 0, none⟩ = some (.int .i64 o.f0) := (blk_cell q0 0).trans rfl
  have k1 : wc.cell? ⟨w.heap.size, 1, none⟩ = some (.int .i64 o.f1) := (blk_cell q0 1).trans rfl
  have k2 : wc.cell? ⟨w.heap.size, 2, none⟩ = some (.int .i64 o.f2) := (blk_cell q0 2).trans rfl
  have k3 : wc.cell? ⟨w.heap.size, 3, none⟩ = some (.int .u64 o.f3) := (blk_cell q0 3).trans rfl
  have k4 : wc.cell? ⟨w.heap.size, 4, none⟩ = some (.slice A o.f4.length c) := (blk_cell q0 4).trans rfl
  have hno : ¬ Mown mb L B (w.heap.size + 1) := fun hk => by have := (h.own_lt _ (.inr hk)).2; omega
  have hans := Aside0.mk (fun W (hW : Far (Mown mb L B) wc W) => hW.blk q1 hno)
  have hm := Aside0.mk (MN.same (hM.mono (Nat.le_succ cnt)) (Below.refl _ _) : MN wc wc base bb mb (cnt + 1) L L B)
  replace h := Aside0.mk h
  replace hM := Aside0.mk hM
  replace hb1 := Aside0.mk hb1
  replace hz := Aside0.mk hz
  clear q0 q1 hno
  have hf2 : Far (Mown mb L B) wc wc := Far.refl _ _
  have p1 := hans.out _ hf2; have kc0 := (blk_cell p1 0).trans rfl; have kc1 := (blk_cell p1 1).trans rfl; have kc2 := (blk_cell p1 2).trans rfl; have f10 := blk_frozen p1 0; have f11 := blk_frozen p1 1; have f12 := blk_frozen p1 2; have hF := Aside0.mk (blk_put (cs' := #[.int .i64 1, .int .i64 0, (.slice none 0 0)]) (blk_put (cs' := #[.int .i64 1, .int .i64 0, .slice none 0 0]) (blk_put (cs' := #[.int .i64 1, .int .i64 0, .slice none 0 0]) p1 0 (.int .i64 1) (by simp)) 1 (.int .i64 0) (by simp)) 2 (.slice none 0 0) (by simp)); clear p1 hf2
  go_wp2
  refine bodyPost_ret (results_single rfl (.cell (w.heap.size + 1) 28 _ (0, 0) _ rfl hF.out Try.underlying28 rfl (by kernel_rfl) .nil)) rfl ⟨_, rfl, DN.nil (MN.ans h.out hb1.out hz.out hm.out _ _ _)⟩
end Go.Proofs.Ytgcgnpinhlmmjaa.Hand
