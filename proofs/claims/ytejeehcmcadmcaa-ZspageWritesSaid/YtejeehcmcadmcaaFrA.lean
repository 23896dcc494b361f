/- frames.New, walked by hand; frames in memory; what calls leave as it was. -/
import Derived.Test.YtejeehcmcadmcaaFar
import Derived.Test.YtejeehcmcadmcaaRx1
import Derived.Handy
namespace Go.Proofs.Ytejeehcmcadmcaa.Hand
set_option linter.unusedVariables false
set_option linter.unusedSimpArgs false
open Go.RowKit Go.Proofs.Ytejeehcmcadmcaa.R Go.Proofs.YtejeehcmcadmcaaW.PrintWords Go.Proofs.YtejeehcmcadmcaaW.PrintLast Go.Proofs.YtejeehcmcadmcaaW.PrintMore

theorem info3 : (Try.prog.info? 3).map (fun i => (i.zero, i.size, i.bytes)) = some (some (.int .i64 0), 1, 8) := by kernel_rfl
abbrev RI (w : World) (base : Nat) (ok : Nat → Prop) (v : Value) (xs : List Int) : Prop := Kd.R (Kd.int .i64) 3 w base ok v xs
/-- What a call leaves as it was: all that is older than base, and all blocks that are no numbers' row and no frames. -/
structure Only (base : Nat) (w w' : World) : Prop where
  ge : base ≤ w.heap.size
  below : Below base w w'
  typ : ∀ (h : Nat) (cs : Array Value) (T : TypeId), T ≠ 3 → T ≠ 66 → w.heap[h]? = some (.cells cs T (0, 0)) → w'.heap[h]? = some (.cells cs T (0, 0))
theorem Only.refl (base : Nat) (w : World) (h : base ≤ w.heap.size) : Only base w w := ⟨h, ⟨rfl, rfl, rfl, Nat.le_refl _, fun _ _ => rfl⟩, fun _ _ _ _ _ h => h⟩
theorem Only.trans {base : Nat} {a b c : World} (h : Only base a b) (k : Only base b c) : Only base a c := ⟨h.ge, h.below.trans k.below, fun g cs T h3 h5 hb => k.typ g cs T h3 h5 (h.typ g cs T h3 h5 hb)⟩
theorem Only.ge2 {base : Nat} {a b : World} (h : Only base a b) : base ≤ b.heap.size := Nat.le_trans h.ge h.below.size
theorem Only.of_below {base : Nat} {a b : World} (h : Below a.heap.size a b) (hb : base ≤ a.heap.size) : Only base a b :=
  ⟨hb, ⟨h.os, h.tape, h.output, h.size, fun k hk => h.block k (by omega)⟩, fun g cs T _ _ hg => blk_below hg h⟩
theorem Only.then_ {base : Nat} {a b c : World} (h : Only base a b) (k : Below b.heap.size b c) : Only base a c := h.trans (Only.of_below k h.ge2)
theorem Only.alloc {base : Nat} {a b : World} (h : Only base a b) (o : Obj) : Only base a (b.alloc o) := h.then_ (below_alloc (Below.refl _ _) o)
theorem Only.drewN {base : Nat} {a b : World} (h : Only base a b) (n : Nat) : Only base a (b.drewN n) := h.then_ (pw_below_drewN (Below.refl _ _) n)
theorem Only.drew {base : Nat} {a b : World} (h : Only base a b) : Only base a b.drew := h.then_ (below_drew (Below.refl _ _))
theorem Only.set {base : Nat} {a b : World} (h : Only base a b) {g : Nat} {cs : Array Value} {T : TypeId} (hb : b.heap[g]? = some (.cells cs T (0, 0))) (hT : T = 3 ∨ T = 66) (hg : base ≤ g) (i : Nat) (u : Value) : Only base a (b.setCell ⟨g, i, none⟩ u) :=
  h.trans ⟨h.ge2, ⟨rfl, rfl, rfl, by simp [World.setCell], fun k hk => Below.heap_setCell _ _ _ _ (by show k ≠ g; omega)⟩, fun k cs' T' h3 h5 hk => by
    refine (Below.heap_setCell _ _ _ _ ?_).trans hk
    show k ≠ g
    rintro rfl
    rw [hb] at hk
    injection hk with hk
    injection hk with _ hk
    subst hk
    rcases hT with h | h
    · exact h3 h
    · exact h5 h⟩
theorem Only.grown {base : Nat} {a b c : World} (h : Only base a b) {ok : Nat → Prop} {v : Value} {xs : List Int} (hr : RI b base ok v xs) (hb : Below base b c) (hg : b.grownBy c v.ownBlock) : Only base a c :=
  h.trans ⟨h.ge2, hb, fun k cs T h3 h5 hk => blk_grown hk hg (fun e => by
    obtain ⟨cells, hc⟩ := Kd.R_typed hr k e.symm
    rw [hk] at hc
    injection hc with hc
    injection hc with _ hc
    exact h3 hc)⟩

/-- Frames in memory: at block g, the owners' row (block o), the free ones' row, all made since base. -/
structure FS (w : World) (base g : Nat) (own F : List Int) (t : Int) (o c0 : Nat) (A1 : Option Addr) (c1 : Nat) : Prop where
  blk : w.heap[g]? = some (.cells #[.slice (some ⟨o, 0, none⟩) own.length c0, .slice A1 F.length c1, .int .i64 t] 66 (0, 0))
  r0 : RI w base (fun k => k = o) (.slice (some ⟨o, 0, none⟩) own.length c0) own
  r1 : RI w base (fun k => k ≠ g ∧ k ≠ o) (.slice A1 F.length c1) F
  ge : base ≤ g
theorem FS.ne {w : World} {base g : Nat} {own F : List Int} {t : Int} {o c0 : Nat} {A1 : Option Addr} {c1 : Nat} (h : FS w base g own F t o c0 A1 c1) : g ≠ o := by
  obtain ⟨cells, hc⟩ := Kd.R_typed h.r0 o rfl
  rintro rfl
  rw [h.blk] at hc
  injection hc with hc
  injection hc with _ hc
  cases hc
theorem FS.below {w w' : World} {base g : Nat} {own F : List Int} {t : Int} {o c0 : Nat} {A1 : Option Addr} {c1 : Nat} (h : FS w base g own F t o c0 A1 c1) (hb : Below w.heap.size w w') : FS w' base g own F t o c0 A1 c1 :=
  ⟨blk_below h.blk hb, Kd.R_below h.r0 hb, Kd.R_below h.r1 hb, h.ge⟩
theorem FS.alloc {w : World} {base g : Nat} {own F : List Int} {t : Int} {o c0 : Nat} {A1 : Option Addr} {c1 : Nat} (h : FS w base g own F t o c0 A1 c1) (x : Obj) : FS (w.alloc x) base g own F t o c0 A1 c1 := h.below (below_alloc (Below.refl _ _) x)
theorem FS.drewN {w : World} {base g : Nat} {own F : List Int} {t : Int} {o c0 : Nat} {A1 : Option Addr} {c1 : Nat} (h : FS w base g own F t o c0 A1 c1) (n : Nat) : FS (w.drewN n) base g own F t o c0 A1 c1 := h.below (pw_below_drewN (Below.refl _ _) n)
theorem FS.drew {w : World} {base g : Nat} {own F : List Int} {t : Int} {o c0 : Nat} {A1 : Option Addr} {c1 : Nat} (h : FS w base g own F t o c0 A1 c1) : FS w.drew base g own F t o c0 A1 c1 := h.below (below_drew (Below.refl _ _))
/-- A store into a block of another type. -/
theorem FS.far {w : World} {base g : Nat} {own F : List Int} {t : Int} {o c0 : Nat} {A1 : Option Addr} {c1 : Nat} (h : FS w base g own F t o c0 A1 c1) {k : Nat} {cs : Array Value} {T : TypeId} (hb : w.heap[k]? = some (.cells cs T (0, 0))) (h3 : T ≠ 3) (h5 : T ≠ 66) (i : Nat) (u : Value) : FS (w.setCell ⟨k, i, none⟩ u) base g own F t o c0 A1 c1 := by
  have hg : g ≠ k := blk_ne h.blk hb (fun e => h5 e.symm)
  have ht : ∀ q, q ∈ (3 : TypeId) :: (Kd.int .i64).E → q ≠ T := by
    intro q hq e
    rcases List.mem_cons.1 hq with h | h
    · exact h3 (e.symm.trans h)
    · have h' : q ∈ ([] : List TypeId) := h
      cases h'
  exact ⟨blk_far h.blk (p := ⟨k, i, none⟩) hg u, Kd.R_mono (Kd.R_far (p := ⟨k, i, none⟩) (Kd.R_types h.r0 hb ht) (fun _ hk => hk.2) u) (fun _ hk => hk.1), Kd.R_mono (Kd.R_far (p := ⟨k, i, none⟩) (Kd.R_types h.r1 hb ht) (fun _ hk => hk.2) u) (fun _ hk => hk.1), h.ge⟩

/-- n - 1, .., k. -/
def dn (n k : Nat) : List Int := (List.range (n - k)).map fun i => ((n - 1 - i : Nat) : Int)
theorem dn_length (n k : Nat) : (dn n k).length = n - k := by simp [dn]
theorem dn_self (n : Nat) : dn n n = [] := by simp [dn]
theorem dn_step (n k : Nat) (h : k + 1 ≤ n) : dn n k = dn n (k + 1) ++ [(k : Int)] := by
  unfold dn
  rw [show n - k = (n - (k + 1)) + 1 by omega, List.range_succ, List.map_append]
  simp only [List.map_cons, List.map_nil]
  rw [show n - 1 - (n - (k + 1)) = k by omega]

set_option maxHeartbeats 8000000 in
set_option maxRecDepth 100000 in
theorem new_calls (n : Nat) (h8 : 8 ≤ n) (h96 : n ≤ 96) (w : World) : Calls Try.prog 25 #[.int .i64 (n : Int)] w fun e w' => ∃ g o c0 A1 c1, e = .returned (.tuple #[.pointer (some ⟨g, 0, none⟩), .int .i64 0]) ∧ FS w' w.heap.size g (List.replicate n 0) (dn n 0) 0 o c0 A1 c1 ∧ Below w.heap.size w w' := by
  have d1 : decide ((n : Int) < 8) = false := decide_eq_false (by omega)
  have d2 : decide ((n : Int) > 96) = false := decide_eq_false (by omega)
  have d1n : decide (n < 8) = false := decide_eq_false (by omega)
  have d2n : decide (96 < n) = false := decide_eq_false (by omega)
  have hsz : (n : Int).toNat * 8 ≤ 281474976710656 := by omega
  have h0 : 0 ≤ (n : Int) := by omega
  have e1 : wrap64 ((n : Int) - 1) = (n : Int) - 1 := by unfold wrap64; omega
  replace h8 := Aside0.mk h8
  replace h96 := Aside0.mk h96
  replace hsz := Aside0.mk hsz
  replace h0 := Aside0.mk h0
  replace e1 := Aside0.mk e1
  go_enter Try.func25, Try.ntmps25
  go_wp2_with (first | ((with_reducible refine gate_dst (N := 13) rfl ?_); refine Kd.R_make (Kd.int .i64) (w0 := w) w.heap.size 3 rfl (N := 13) rfl 33 _ _ rfl (n : Int) rfl rfl Try.underlying33 (.int .i64 0) 8 info3 rfl (by decide) (by decide) 0 (ok := fun _ => True) (okp := fun _ => True) rfl (fun _ hk => hk) trivial h0.out hsz.out (Below.refl _ _) (Nat.le_refl _) ?_; intro v0 w1 hr hbl hgr hat; rw [Int.toNat_natCast] at hr; obtain ⟨o, ho, hoge⟩ := hat; obtain ⟨A0, c0, e0⟩ := Kd.R_slice hr; subst e0; obtain ⟨ad, rfl⟩ : ∃ ad, A0 = some ad := (by cases A0 with | none => simp [Value.ownBlock] at ho | some ad => exact ⟨ad, rfl⟩); obtain ⟨o', rfl⟩ := Kd.R_head hr; obtain rfl : o' = o := (by simpa [Value.ownBlock] using ho); clear ho hoge hgr; replace hr := Aside0.mk (Kd.R_mono (Kd.R_tight rfl hr) (fun k hk => Option.some.inj hk : ∀ k, some k = (Value.slice (some ⟨o', 0, none⟩) _ _).ownBlock → k = o')); replace hbl := Aside0.mk hbl))
  rw [List.length_replicate] at hr
  have hbx := Aside0.mk (blk_new w1 (.cells #[.slice (some ⟨o', 0, none⟩) n c0, .slice none 0 0, .int .i64 0] 66 (0, 0)))
  have g_ge : w.heap.size ≤ w1.heap.size := hbl.out.size
  replace g_ge := Aside0.mk g_ge
  go_loopg [5] n (fun kq v5 w' => ∃ (A1 : Option Addr) (c1 : Nat) (F : List Int), v5 = .int .i64 ((kq : Int) - 1) ∧ Aside0 (kq ≤ n ∧ F = dn n kq) ∧ Aside0 (w'.heap[w1.heap.size]? = some (.cells #[.slice (some ⟨o', 0, none⟩) n c0, .slice A1 F.length c1, .int .i64 0] 66 (0, 0))) ∧ Aside0 (RI w' w.heap.size (fun k => k = o') (.slice (some ⟨o', 0, none⟩) n c0) (List.replicate n 0)) ∧ Aside0 (RI w' w.heap.size (fun k => k ≠ o') (.slice A1 F.length c1) F) ∧ Aside0 (Below w.heap.size w w'))
  case atStart =>
    refine ⟨none, 0, [], by rw [e1.out], ⟨Nat.le_refl _, (dn_self n).symm⟩, ⟨hbx.out⟩, ⟨Kd.R_alloc hr.out _⟩, ⟨Kd.R_nil _ _ _ _ _⟩, ⟨below_alloc hbl.out _⟩⟩
  case round =>
    obtain ⟨A1, c1, F, rfl, HK, HBK, HR0, HR1, HBL⟩ := hrel
    clear hr hbl hbx
    cases gk with
    | zero =>
      have e0 : ((0 : Nat) : Int) - 1 = -1 := by decide
      rw [e0]
      go_wp2
      go_returns
      obtain ⟨_, rfl⟩ := HK.out
      exact ⟨_, _, _, _, _, rfl, ⟨by rw [List.length_replicate]; exact HBK.out, by rw [List.length_replicate]; exact HR0.out, Kd.R_mono (Kd.R_types HR1.out HBK.out (by decide)) (fun _ hk => ⟨hk.2, hk.1⟩), g_ge.out⟩, HBL.out⟩
    | succ k =>
      have e2 : ((k + 1 : Nat) : Int) - 1 = (k : Int) := by omega
      have d3 : decide ((k : Int) ≥ 0) = true := decide_eq_true (by omega)
      have d4 : decide (0 ≤ (k : Int)) = true := decide_eq_true (by omega)
      have e3 : wrap64 ((k : Int) - 1) = (k : Int) - 1 := by have := HK.out.1; have := h96.out; unfold wrap64; omega
      have hal : (F.length + 1) * 8 ≤ 140737488355328 := by rw [HK.out.2, dn_length]; have := h96.out; omega
      have haf : ∀ k_, wr.heap.size ≤ k_ → k_ ≠ o' := fun k_ hk => by have := Kd.R_lt HR0.out o' rfl; omega
      have hne : w1.heap.size ≠ o' := by
        obtain ⟨cells, hc⟩ := Kd.R_typed HR0.out o' rfl
        exact blk_ne HBK.out hc (by decide)
      replace e3 := Aside0.mk e3
      replace hal := Aside0.mk hal
      replace haf := Aside0.mk haf
      replace hne := Aside0.mk hne
      rw [e2]
      have k1 : wr.cell? ⟨w1.heap.size, 1, none⟩ = some (.slice A1 F.length c1) := (blk_cell HBK.out 1).trans rfl
      have f1 := blk_frozen HBK.out 1
      go_wp2_with (first | ((with_reducible refine gate_builtin (b := .append) (xs := #[.tmp 26, .tmp 28]) rfl ?_); at_builtin; refine Kd.R_append (Kd.int .i64) (w0 := w) w.heap.size rfl (.tmp 26) (.tmp 28) 33 3 (.int .i64 0) 8 rfl Try.underlying33 info3 rfl (by decide) (by omega) (.slice A1 F.length c1) F (k : Int) [.int .i64 (k : Int)] (fun k_ => k_ ≠ o') (fun _ => False) rfl rfl ?aP (fun _ hk => hk.elim) ?aF ?aO ?aB ?aS ?aL ?_; (case aP => exact rfl); (case aB => exact HBL.out); (case aF => exact haf.out); (case aO => exact HR1.out); (case aS => exact HBL.out.size); (case aL => exact hal.out); intro v2 w2 ho hb hg hat; have n0_ := Aside0.mk (Kd.R_step HR0.out (fun k_ hk hlt => hg.block k_ hlt (fun e => HR1.out.1 k_ e.symm hk))); have n1_ := Aside0.mk (blk_grown HBK.out hg (Kd.R_ne HR1.out HBK.out (by decide))); clear HR0 HBK HR1 HBL k1 f1; obtain ⟨A2, c2, e4⟩ := Kd.R_slice ho; subst e4; have HR0 := n0_; have HBK := n1_; have HR1 := Aside0.mk ho; have HBL := Aside0.mk hb; clear n0_ n1_ ho hb hg hat; have k1 : w2.cell? ⟨w1.heap.size, 1, none⟩ = some (.slice A1 F.length c1) := (blk_cell HBK.out 1).trans rfl; have f1 := blk_frozen HBK.out 1))
      go_roundg k
      case measure => omega
      case rel =>
        refine ⟨A2, c2, F ++ [(k : Int)], by rw [e3.out], ⟨by have := HK.out.1; omega, by rw [HK.out.2, dn_step n k HK.out.1]⟩, ⟨blk_put HBK.out 1 _ (by simp)⟩, ⟨Kd.R_far (p := ⟨w1.heap.size, 1, none⟩) HR0.out (fun k_ hk => by rw [hk]; exact hne.out.symm) _⟩, ⟨Kd.R_mono (Kd.R_far (p := ⟨w1.heap.size, 1, none⟩) (Kd.R_types HR1.out HBK.out (by decide)) (fun k_ hk => hk.2) _) (fun _ hk => hk.1)⟩, ⟨below_set HBL.out g_ge.out⟩⟩

/-- All blocks are as they were, but frames' three, and new ones. -/
def Kp (g o : Nat) (A1 : Option Addr) (w w' : World) : Prop := w.heap.size ≤ w'.heap.size ∧ ∀ k, k < w.heap.size → k ≠ g → k ≠ o → (∀ ad, A1 = some ad → k ≠ ad.block) → w'.heap[k]? = w.heap[k]?
theorem Kp.refl (g o : Nat) (A1 : Option Addr) (w : World) : Kp g o A1 w w := ⟨Nat.le_refl _, fun _ _ _ _ _ => rfl⟩
theorem Kp.of_below {g o : Nat} {A1 : Option Addr} {w w' : World} (h : Below w.heap.size w w') : Kp g o A1 w w' := ⟨h.size, fun k hk _ _ _ => h.block k hk⟩
theorem Kp.setg {g o : Nat} {A1 : Option Addr} {w w' : World} (h : Kp g o A1 w w') (i : Nat) (u : Value) : Kp g o A1 w (w'.setCell ⟨g, i, none⟩ u) :=
  ⟨by have := h.1; simpa [World.setCell] using this, fun k hk h1 h2 h3 => (Below.heap_setCell _ _ _ _ h1).trans (h.2 k hk h1 h2 h3)⟩
theorem Kp.seto {g o : Nat} {A1 : Option Addr} {w w' : World} (h : Kp g o A1 w w') (i : Nat) (u : Value) : Kp g o A1 w (w'.setCell ⟨o, i, none⟩ u) :=
  ⟨by have := h.1; simpa [World.setCell] using this, fun k hk h1 h2 h3 => (Below.heap_setCell _ _ _ _ h2).trans (h.2 k hk h1 h2 h3)⟩
theorem Kp.grown {g o n c : Nat} {A1 : Option Addr} {w w' w2 : World} (h : Kp g o A1 w w') (hg : w'.grownBy w2 (Value.slice A1 n c).ownBlock) (hs : w.heap.size ≤ w'.heap.size) : Kp g o A1 w w2 :=
  ⟨Nat.le_trans hs hg.size, fun k hk h1 h2 h3 => (hg.block k (by omega) (fun e => by
    cases A1 with
    | none => simp [Value.ownBlock] at e
    | some ad => exact h3 ad rfl (by simpa [Value.ownBlock] using e))).trans (h.2 k hk h1 h2 h3)⟩
theorem new_at {A1 A2 : Option Addr} {n c n2 c2 : Nat} {w w3 : World} (hat : (Value.slice A2 n2 c2).ownBlock = (Value.slice A1 n c).ownBlock ∨ ∃ b, (Value.slice A2 n2 c2).ownBlock = some b ∧ w3.heap.size ≤ b) (hs : w.heap.size ≤ w3.heap.size) :
    ∀ ad, A2 = some ad → (∃ a1, A1 = some a1 ∧ a1.block = ad.block) ∨ w.heap.size ≤ ad.block := by
  rintro ad rfl
  rcases hat with h | ⟨b, h1, h2⟩
  · left
    cases A1 with
    | none => simp [Value.ownBlock] at h
    | some a1 => exact ⟨a1, rfl, by simpa [Value.ownBlock] using h.symm⟩
  · right
    have : ad.block = b := by simpa [Value.ownBlock] using h1
    omega


end Go.Proofs.Ytejeehcmcadmcaa.Hand
