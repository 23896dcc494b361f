/- Bytes gone through: one read, one written; all of them; walked. -/
import Derived.Test.YtgcgnpinhlmmjaaA2
import Derived.StillTailTactics
namespace Go.Proofs.Ytgcgnpinhlmmjaa.Hand
set_option linter.unusedVariables false
set_option linter.unusedSimpArgs false
open Go.RowKit Go.Maps Go.Proofs.Ytgcgnpinhlmmjaa.R Go.Proofs.Ytgcgnpinhlmmjaa.Va Go.Proofs.YtgcgnpinhlmmjaaW.PrintWords Go.Proofs.YtgcgnpinhlmmjaaW.PrintLast Go.Proofs.YtgcgnpinhlmmjaaW.PrintMore

theorem setB_ns (l : List Pg) (b : Nat) (x : Int) : (setB l b x).map (·.n) = l.map (·.n) := by
  unfold setB
  split
  · rfl
  · exact repP_ns _ _
theorem storeF_ns (a : Nat) (xs : List Int) : ∀ (i : Nat) (l : List Pg), (storeF l a i xs).map (·.n) = l.map (·.n) := by
  induction xs with
  | nil => intro i l; rfl
  | cons y xs ih =>
    intro i l
    show (storeF (setB l (addr a i) y) a (i + 1) xs).map (·.n) = _
    rw [ih, setB_ns]
theorem Mown_ns {mb : Nat} {L L' : List Pg} {B : Int → Nat × Nat} (h : L'.map (·.n) = L.map (·.n)) {k : Nat} (hk : Mown mb L' B k) : Mown mb L B k := by
  rcases hk with rfl | ⟨p, hp, hk⟩
  · exact .inl rfl
  · have : p.n ∈ L'.map (·.n) := List.mem_map.2 ⟨p, hp, rfl⟩
    rw [h] at this
    obtain ⟨q, hq, e⟩ := List.mem_map.1 this
    exact .inr ⟨q, hq, by rw [e]; exact hk⟩
theorem bitem {w : World} {A : Option Addr} {xs : List Int} (h : Kd.C (Kd.int .u8) w A xs.length xs) (i : Nat) (hi : i < xs.length) : ∃ ad, A = some ad ∧ w.cell? (ad.add i) = some (.int .u8 (xs.getD i 0)) := by
  obtain ⟨ad, c, e, _, hK, hc0⟩ := Kd.C_get h (0 : Int) i (by omega) (by omega)
  have hc : ∀ j u, c[j]? = some u → w.cell? (ad.add ((i : Int).toNat * 1 + j)) = some u := hc0
  refine ⟨ad, e, ?_⟩
  have hK' : c = [Value.int .u8 (xs.getD (i : Int).toNat 0)] := hK
  have := hc 0 _ (by rw [hK']; rfl)
  rwa [Int.toNat_natCast, Nat.mul_one, Nat.add_zero] at this

set_option maxHeartbeats 8000000 in
set_option maxRecDepth 100000 in
theorem read1_calls (ob rb n i : Nat) (xs : List Int) (pb off : Nat) (x : Int) (w : World) (ho : w.heap[ob]? = some (.cells #[.slice (some ⟨rb, 0, none⟩) n n] 23 (0, 0))) (hr : w.heap[rb]? = some (.cells (bs xs) 5 (0, 0))) (hn : xs.length = n) (hi : i < n) (hn64 : n ≤ 64) (hx : w.cell? ⟨pb, off, none⟩ = some (.int .u8 x)) :
    Calls Try.prog 61 #[.int .i64 (i : Int), .pointer (some ⟨pb, off, none⟩), .pointer (some ⟨ob, 0, none⟩)] w fun e w' => e = .returned (.tuple #[]) ∧ w'.heap[rb]? = some (.cells (bs (xs.set i x)) 5 (0, 0)) ∧ Far (fun k => k = rb) w w' := by
  have k0 : w.cell? ⟨ob, 0, none⟩ = some (.slice (some ⟨rb, 0, none⟩) n n) := (blk_cell ho 0).trans rfl
  have kr : w.cell? ⟨rb, i, none⟩ = some (.int .u8 (xs.getD i 0)) := (blk_cell hr i).trans (bs_get xs i (by omega))
  have fr := blk_frozen hr i
  have hi0 : (0 : Int) ≤ (i : Int) := by omega
  have hi1 : (i : Int) < (n : Int) := by omega
  have d1 : decide (i < n) = true := decide_eq_true hi
  have h1 := Aside0.mk (show (w.drew.setCell ⟨rb, i, none⟩ (.int .u8 x)).heap[rb]? = some (.cells (bs (xs.set i x)) 5 (0, 0)) from blk_put (blk_drew hr) _ _ (bs_set _ _ _))
  have h2 := Aside0.mk (show Far (fun k => k = rb) w (w.drew.setCell ⟨rb, i, none⟩ (.int .u8 x)) from (Far.drew (Far.refl _ w)).set1 _ _)
  clear ho hr hn hn64
  go_enter Try.func61, Try.ntmps61
  go_wp2
  go_still_tail 6, (by kernel_rfl)
  change wpList _ _ _ _ _ w.drew
  go_wp2
  go_returns
  exact ⟨rfl, h1.out, h2.out⟩

set_option maxHeartbeats 8000000 in
set_option maxRecDepth 100000 in
theorem stored1_calls (ob n i c : Nat) (ad : Addr) (v0 v1 v2 v3 : Value) (pb off : Nat) (x y : Int) (w : World) (ho : w.heap[ob]? = some (.cells #[v0, v1, v2, v3, .slice (some ad) n c] 25 (0, 0))) (hi : i < n) (hn64 : n ≤ 64) (hx : w.cell? (ad.add i) = some (.int .u8 x)) (hy : w.cell? ⟨pb, off, none⟩ = some (.int .u8 y)) (hf : w.frozen? ⟨pb, off, none⟩ = false) :
    Calls Try.prog 62 #[.int .i64 (i : Int), .pointer (some ⟨pb, off, none⟩), .pointer (some ⟨ob, 0, none⟩)] w fun e w' => e = .returned (.tuple #[]) ∧ w' = w.setCell ⟨pb, off, none⟩ (.int .u8 x) := by
  have k0 : w.cell? ⟨ob, 4, none⟩ = some (.slice (some ad) n c) := (blk_cell ho 4).trans rfl
  have hi0 : (0 : Int) ≤ (i : Int) := by omega
  have hi1 : (i : Int) < (n : Int) := by omega
  have d1 : decide (i < n) = true := decide_eq_true hi
  clear ho hn64
  go_enter Try.func62, Try.ntmps62
  go_wp2
  go_returns
  exact ⟨rfl, rfl⟩

set_option maxHeartbeats 8000000 in
set_option maxRecDepth 100000 in
theorem each_store (base bb mb cnt : Nat) (D : DataW Unit) (L : List Pg) (B : Int → Nat × Nat) (a : Nat) (ha : a < 18446744073709551616) (xs : List Int) (hxs : ∀ x ∈ xs, 0 ≤ x ∧ x < 256) (hn : xs.length ≤ 64) (use : Int) (A : Option Addr) (c ob : Nat) (v0 v1 v2 v3 : Value) (w : World) (h : MD w base bb mb cnt D L B)
    (hall : ∀ j, j < xs.length → may1 L a use j = 0) (ho : w.heap[ob]? = some (.cells #[v0, v1, v2, v3, .slice A xs.length c] 25 (0, 0))) (hob : ¬ Mown mb L B ob) (hdat : ∀ W, Far (Mown mb L B) w W → Kd.C (Kd.int .u8) W A xs.length xs) :
    Calls Try.prog 60 #[.pointer (some ⟨bb, 0, none⟩), .int .u64 (a : Int), .int .i64 (xs.length : Int), .func (.func 62) #[] #[.pointer (some ⟨ob, 0, none⟩)]] w fun e w' => e = .returned (.tuple #[]) ∧ MD w' base bb mb cnt D (storeF L a 0 xs) B ∧ Far (Mown mb L B) w w' := by
  replace h := Aside0.mk h
  replace hall := Aside0.mk hall
  replace ho := Aside0.mk ho
  replace hob := Aside0.mk hob
  replace hdat := Aside0.mk hdat
  replace hxs := Aside0.mk hxs
  go_enter Try.func60, Try.ntmps60
  go_wp2
  go_loopg [11] xs.length (fun kq v11 w' => ∃ (i : Nat), v11 = .int .i64 (i : Int) ∧ Aside0 (i + kq = xs.length) ∧ Aside0 (MD w' base bb mb cnt D (storeF L a 0 (xs.take i)) B ∧ Far (Mown mb L B) w w'))
  case atStart => exact ⟨0, rfl, ⟨by omega⟩, ⟨h.out, Far.refl _ _⟩⟩
  case round =>
    obtain ⟨i, rfl, HK, HM⟩ := hrel
    cases gk with
    | zero =>
      obtain rfl : i = xs.length := by have := HK.out; omega
      have d3 : decide (((xs.length : Nat) : Int) < ((xs.length : Nat) : Int)) = false := decide_eq_false (by omega)
      have hM := HM.out
      rw [List.take_length] at hM
      replace hM := Aside0.mk hM
      go_wp2
      go_returns
      exact ⟨rfl, hM.out⟩
    | succ k1 =>
      have hi : i < xs.length := by have := HK.out; omega
      obtain ⟨b, hbe⟩ : ∃ b, b = addr a i := ⟨_, rfl⟩
      have e2 := u64addr a i
      have hb := addr_lt a i
      have hst := storeF_take L a xs i hi
      have hm1 := hall.out i hi
      rw [← may1_perm (storeF_perm a (xs.take i) 0 L)] at hm1
      obtain ⟨_, _, p, hp, _⟩ := may1_zero hm1
      rw [← hbe] at e2 hb hst hp
      obtain ⟨hp1, hp2⟩ := getP_mem hp
      obtain ⟨ad, eA, kx⟩ := bitem (hdat.out _ HM.out.2) i hi
      have ko := HM.out.2.blk ho.out hob.out
      rw [eA] at ko
      have hxr : 0 ≤ xs.getD i 0 ∧ xs.getD i 0 < 256 := by
        rw [List.getD_eq_getElem?_getD, List.getElem?_eq_getElem hi, Option.getD_some]
        exact hxs.out _ (List.getElem_mem hi)
      obtain ⟨hS, hF⟩ := HM.out.1.setB b (xs.getD i 0) hxr p hp
      have hMD := HM.out.1
      rw [← hst] at hS
      have hF2 : Far (Mown mb L B) w (wr.setCell ⟨(B (pnum b)).2, b % 4096, none⟩ (.int .u8 (xs.getD i 0))) := HM.out.2.then_ (hF.mono (fun k hk => Mown_ns (storeF_ns a (xs.take i) 0 L) hk))
      have hlk := hMD.look (pnum b) (pnum_lt b) wr.drew (below_drew1 (Below.refl _ _))
      unfold pbOf at hlk
      rw [hp] at hlk
      have kb : wr.cell? ⟨bb, 0, none⟩ = some (.map (some mb)) := (blk_cell hMD.blk 0).trans rfl
      have kp : wr.cell? ⟨(B p.n).1, 1, none⟩ = some (.slice (some ⟨(B p.n).2, 0, none⟩) 4096 4096) := (blk_cell (hMD.pg p hp1) 1).trans rfl
      have hpd : p.data.length = 4096 := (hMD.okp p hp1).2.2.1
      have ky : wr.cell? ⟨(B p.n).2, b % 4096, none⟩ = some (.int .u8 (p.data.getD (b % 4096) 0)) := (blk_cell (hMD.dt p hp1) _).trans (bs_get p.data _ (by omega))
      have fy := blk_frozen (hMD.dt p hp1) (b % 4096)
      simp only [Option.map_some, ptrV, hp2] at hlk
      rw [hp2] at kp ky fy
      have hP := Aside0.mk (page_calls b hb)
      have hO := Aside0.mk (offset_calls b hb)
      have e1 := u64i i (by omega)
      have ws := Aside0.mk (w64s i (by omega))
      have d3 : decide ((i : Int) < (xs.length : Int)) = true := decide_eq_true (by omega)
      have d3' : decide (i < xs.length) = true := decide_eq_true hi
      have ho0 : (0 : Int) ≤ ((b % 4096 : Nat) : Int) := by omega
      have ho1 : ((b % 4096 : Nat) : Int) < 4096 := by omega
      have ho2 : b % 4096 < 4096 := by omega
      have hfin := Aside0.mk (⟨hS, hF2⟩ : _ ∧ _)
      have hC := Aside0.mk (stored1_calls ob xs.length i c ad v0 v1 v2 v3 (B (pnum b)).2 (b % 4096) (xs.getD i 0) _ wr.drew (blk_drew ko) hi hn kx ky fy)
      generalize (B (pnum b)).2 = db at *
      generalize (B (pnum b)).1 = pb at *
      generalize xs.getD i 0 = x at *
      generalize b % 4096 = o at *
      clear ky fy kx hF hF2 hS hMD hp hp1 hp2 hpd hm1 hst hbe hb ko hxr HM
      go_upto_region 4 with fail
      refine wp_region_still_tail 15 (by kernel_rfl) (by kernel_rfl) ?_
      simp only [List.take_succ_cons, List.take_zero, List.drop_succ_cons, List.drop_zero]
      repeat still_step
      still_call (hP.out _)
      repeat still_step
      still_call (hO.out _)
      repeat still_step
      refine wpStill_nil ?_
      change wpList _ _ _ _ _ wr.drew
      go_wp2_with (go_at_call 62; refine hC.out.mono ?_; rintro e w2 ⟨rfl, rfl⟩)
      go_roundg k1
      case measure => omega
      case rel => exact ⟨i + 1, (by first | rw [ws.out] | rfl), ⟨by have := HK.out; omega⟩, ⟨hfin.out.1.drew, hfin.out.2.drew⟩⟩
/-- What is read, round by round. -/
def midR (L : List Pg) (a n i : Nat) : List Int := readF L a i ++ List.replicate (n - i) 0
theorem readF_length (L : List Pg) (a n : Nat) : (readF L a n).length = n := by unfold readF; rw [List.length_map, List.length_range]
theorem midR_length (L : List Pg) (a n i : Nat) (h : i ≤ n) : (midR L a n i).length = n := by unfold midR; rw [List.length_append, readF_length, List.length_replicate]; omega
theorem midR_all (L : List Pg) (a n : Nat) : midR L a n n = readF L a n := by unfold midR; rw [Nat.sub_self, List.replicate_zero, List.append_nil]
theorem midR_step (L : List Pg) (a n i : Nat) (h : i < n) : (midR L a n i).set i (byteAt L (addr a i)) = midR L a n (i + 1) := by
  unfold midR
  have e : n - i = (n - (i + 1)) + 1 := by omega
  rw [e, List.replicate_succ, List.set_append_right _ _ (by rw [readF_length]; exact Nat.le_refl _), readF_length, Nat.sub_self, List.set_cons_zero]
  unfold readF
  rw [List.range_succ, List.map_append, List.append_assoc]
  rfl

set_option maxHeartbeats 8000000 in
set_option maxRecDepth 100000 in
theorem each_read (base bb mb cnt : Nat) (D : DataW Unit) (L : List Pg) (B : Int → Nat × Nat) (a : Nat) (ha : a < 18446744073709551616) (n : Nat) (hn : n ≤ 64) (use : Int) (ob rb : Nat) (w : World) (h : MD w base bb mb cnt D L B)
    (hall : ∀ j, j < n → may1 L a use j = 0) (ho : w.heap[ob]? = some (.cells #[.slice (some ⟨rb, 0, none⟩) n n] 23 (0, 0))) (hr : w.heap[rb]? = some (.cells (bs (midR L a n 0)) 5 (0, 0))) (hrb : ¬ (rb = bb ∨ Mown mb L B rb)) :
    Calls Try.prog 60 #[.pointer (some ⟨bb, 0, none⟩), .int .u64 (a : Int), .int .i64 (n : Int), .func (.func 61) #[] #[.pointer (some ⟨ob, 0, none⟩)]] w fun e w' => e = .returned (.tuple #[]) ∧ w'.heap[rb]? = some (.cells (bs (readF L a n)) 5 (0, 0)) ∧ Far (fun k => k = rb) w w' := by
  replace h := Aside0.mk h
  replace hall := Aside0.mk hall
  replace ho := Aside0.mk ho
  replace hr := Aside0.mk hr
  replace hrb := Aside0.mk hrb
  go_enter Try.func60, Try.ntmps60
  go_wp2
  go_loopg [11] n (fun kq v11 w' => ∃ (i : Nat), v11 = .int .i64 (i : Int) ∧ Aside0 (i + kq = n) ∧ Aside0 (w'.heap[rb]? = some (.cells (bs (midR L a n i)) 5 (0, 0)) ∧ Far (fun k => k = rb) w w'))
  case atStart => exact ⟨0, rfl, ⟨by omega⟩, ⟨hr.out, Far.refl _ _⟩⟩
  case round =>
    obtain ⟨i, rfl, HK, HM⟩ := hrel
    cases gk with
    | zero =>
      obtain rfl : i = n := by have := HK.out; omega
      have d3 : decide (((i : Nat) : Int) < ((i : Nat) : Int)) = false := decide_eq_false (by omega)
      have hM := HM.out
      rw [midR_all] at hM
      replace hM := Aside0.mk hM
      go_wp2
      go_returns
      exact ⟨rfl, hM.out⟩
    | succ k1 =>
      have hi : i < n := by have := HK.out; omega
      obtain ⟨b, hbe⟩ : ∃ b, b = addr a i := ⟨_, rfl⟩
      have e2 := u64addr a i
      have hb := addr_lt a i
      have hm1 := hall.out i hi
      obtain ⟨_, _, p, hp, _⟩ := may1_zero hm1
      have hst := midR_step L a n i hi
      rw [← hbe] at e2 hb hp hst
      have hby : byteAt L b = p.data.getD (b % 4096) 0 := by unfold byteAt; rw [hp]
      rw [hby] at hst
      obtain ⟨hp1, hp2⟩ := getP_mem hp
      have hob : ob ≠ rb := blk_ne ho.out hr.out (by decide)
      have ko := HM.out.2.blk ho.out hob
      have kr := HM.out.1
      have hMD : MD wr base bb mb cnt D L B := h.out.stay HM.out.2 (fun k hk e => by subst e; exact hrb.out hk)
      have hlk := hMD.look (pnum b) (pnum_lt b) wr.drew (below_drew1 (Below.refl _ _))
      unfold pbOf at hlk
      rw [hp] at hlk
      have kb : wr.cell? ⟨bb, 0, none⟩ = some (.map (some mb)) := (blk_cell hMD.blk 0).trans rfl
      have kp : wr.cell? ⟨(B p.n).1, 1, none⟩ = some (.slice (some ⟨(B p.n).2, 0, none⟩) 4096 4096) := (blk_cell (hMD.pg p hp1) 1).trans rfl
      have hpd : p.data.length = 4096 := (hMD.okp p hp1).2.2.1
      have ky : wr.cell? ⟨(B p.n).2, b % 4096, none⟩ = some (.int .u8 (p.data.getD (b % 4096) 0)) := (blk_cell (hMD.dt p hp1) _).trans (bs_get p.data _ (by omega))
      have fy := blk_frozen (hMD.dt p hp1) (b % 4096)
      simp only [Option.map_some, ptrV, hp2] at hlk
      rw [hp2] at kp ky fy
      have hP := Aside0.mk (page_calls b hb)
      have hO := Aside0.mk (offset_calls b hb)
      have e1 := u64i i (by omega)
      have ws := Aside0.mk (w64s i (by omega))
      have d3 : decide ((i : Int) < (n : Int)) = true := decide_eq_true (by omega)
      have d3' : decide (i < n) = true := decide_eq_true hi
      have ho0 : (0 : Int) ≤ ((b % 4096 : Nat) : Int) := by omega
      have ho1 : ((b % 4096 : Nat) : Int) < 4096 := by omega
      have ho2 : b % 4096 < 4096 := by omega
      have hC := Aside0.mk (read1_calls ob rb n i (midR L a n i) (B (pnum b)).2 (b % 4096) _ wr.drew (blk_drew ko) (blk_drew kr) (midR_length L a n i (by omega)) hi hn ky)
      rw [hst] at hC
      have hF0 := HM.out.2
      replace hF0 := Aside0.mk hF0
      generalize (B (pnum b)).2 = db at *
      generalize (B (pnum b)).1 = pb at *
      generalize b % 4096 = o at *
      clear ky fy hMD hp hp1 hp2 hpd hm1 hst hbe hb ko kr hby HM
      go_upto_region 4 with fail
      refine wp_region_still_tail 15 (by kernel_rfl) (by kernel_rfl) ?_
      simp only [List.take_succ_cons, List.take_zero, List.drop_succ_cons, List.drop_zero]
      repeat still_step
      still_call (hP.out _)
      repeat still_step
      still_call (hO.out _)
      repeat still_step
      refine wpStill_nil ?_
      change wpList _ _ _ _ _ wr.drew
      go_wp2_with (go_at_call 61; refine hC.out.mono ?_; rintro e w2 ⟨rfl, hr2, hF2⟩; replace hr2 := Aside0.mk hr2; replace hF2 := Aside0.mk hF2)
      go_roundg k1
      case measure => omega
      case rel => exact ⟨i + 1, (by first | rw [ws.out] | rfl), ⟨by have := HK.out; omega⟩, ⟨hr2.out, hF0.out.drew.then_ hF2.out⟩⟩
end Go.Proofs.Ytgcgnpinhlmmjaa.Hand
