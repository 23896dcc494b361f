/- The document's Turn, walked by hand. -/
import Derived.Test.YtmmnkanijdbgpaaD5
namespace Go.Proofs.Ytmmnkanijdbgpaa.Hand
set_option linter.unusedVariables false
set_option linter.unusedSimpArgs false
open Go.RowKit Go.Proofs.Ytmmnkanijdbgpaa.R Go.Proofs.YtmmnkanijdbgpaaW.PrintWords Go.Proofs.YtmmnkanijdbgpaaW.PrintLast Go.Proofs.YtmmnkanijdbgpaaW.PrintMore

theorem ints_ne' (P : List Int) (hP : P.length = 97) : ¬ ints P = #[] := by
  intro e
  have := congrArg Array.size e
  rw [ints_size, hP] at this
  revert this
  decide
/-- The frames that are asked, by the document. -/
def rndP (P but : List Int) (h : Nat) : Nat → List Int
  | 0 => []
  | k + 1 => if decide (P.getD ((h + k) % 96) 0 < 0) || but.contains (((h + k) % 96 : Nat) : Int) then rndP P but h k else rndP P but h k ++ [(((h + k) % 96 : Nat) : Int)]
theorem rndP_succ (P but : List Int) (h k : Nat) : rndP P but h (k + 1) = if decide (P.getD ((h + k) % 96) 0 < 0) || but.contains (((h + k) % 96 : Nat) : Int) then rndP P but h k else rndP P but h k ++ [(((h + k) % 96 : Nat) : Int)] := rfl
theorem rndP_length (P but : List Int) (h k : Nat) : (rndP P but h k).length ≤ k := by
  induction k with
  | zero => exact Nat.le_refl _
  | succ k ih =>
    rw [rndP_succ]
    split
    · omega
    · rw [List.length_append]; simp only [List.length_cons, List.length_nil]; omega
theorem rndP_mem (P but : List Int) (h k : Nat) : ∀ y ∈ rndP P but h k, ∃ f : Nat, y = (f : Int) ∧ f < 96 := by
  induction k with
  | zero => intro y hy; cases hy
  | succ k ih =>
    intro y hy
    rw [rndP_succ] at hy
    split at hy
    · exact ih y hy
    · rcases List.mem_append.1 hy with hy | hy
      · exact ih y hy
      · exact ⟨(h + k) % 96, List.mem_singleton.1 hy, by omega⟩
theorem Ci_at {k : IntKind} {w : World} {A : Option Addr} {n : Nat} {xs : List Int} (h : (Kd.int k).C w A n xs) (i : Nat) (hi : i < xs.length) : ∃ ad, A = some ad ∧ w.cell? (ad.add i) = some (.int k xs[i]) := by
  have hR := Kd.reads_of_C (enc := Value.int k) (d := (0 : Int)) (h1 := fun _ => rfl) h
  have hn : n = xs.length := h.1.symm
  obtain ⟨ad, ha, hc⟩ := hR.2.2 (by omega)
  refine ⟨ad, ha, ?_⟩
  rw [hc i (by omega)]
  simp [hi]
theorem take_contains (l : List Int) (j : Nat) (h : j < l.length) (f : Int) : (l.take (j + 1)).contains f = ((l.take j).contains f || (l[j] == f)) := by
  rw [List.take_succ_eq_append_getElem h, Bool.eq_iff_iff]
  simp only [List.contains_iff_mem, List.mem_append, List.mem_singleton, Bool.or_eq_true, beq_iff_eq]
  constructor
  · rintro (h | h)
    · exact .inl h
    · exact .inr h.symm
  · rintro (h | h)
    · exact .inl h
    · exact .inr h.symm
theorem w2n (n : Nat) (h : n < 1000) : wrap64 (2 * (n : Int)) = ((2 * n : Nat) : Int) := by unfold wrap64; omega
theorem twice_get (xs : List Int) (i : Nat) (h : i < 2 * xs.length) (hm : i % xs.length < xs.length) : (xs ++ xs)[i]'(by rw [List.length_append]; omega) = xs[i % xs.length] := by
  by_cases h1 : i < xs.length
  · rw [List.getElem_append_left h1]
    congr 1
    exact (Nat.mod_eq_of_lt h1).symm
  · rw [List.getElem_append_right (by omega)]
    congr 1
    rw [Nat.mod_eq_sub_mod (by omega), Nat.mod_eq_of_lt (by omega)]
/-- What the document's Turn tells. -/
structure RT (P : List Int) (S : List Bool) (xs : List Int) (w : World) (e : Ending) (w' : World) : Prop where
  below : Below w.heap.size w w'
  of : (xs = [] ∧ e = .returned (.tuple #[.agg (ints P), .int .i64 (-1), .slice none 0 0])) ∨ ∃ (x : Int) (r : List Int) (y : Nat) (A : Option Addr) (c : Nat), xs = x :: r ∧ y < 96 ∧ (y : Int) = (askAll (askS S) nxtS [] (xs ++ xs)).2.getD x ∧
    e = .returned (.tuple #[.agg (ints (P.set 96 (((y + 1) % 96 : Nat) : Int))), .int .i64 (y : Int), .slice A (askAll (askS S) nxtS [] (xs ++ xs)).1.length c]) ∧ RI w' w.heap.size (fun _ => True) (.slice A (askAll (askS S) nxtS [] (xs ++ xs)).1.length c) (askAll (askS S) nxtS [] (xs ++ xs)).1
set_option maxHeartbeats 16000000 in
set_option maxRecDepth 100000 in
theorem rturn_calls (P : List Int) (hP : P.length = 97) (h : Nat) (hh : P.getD 96 0 = (h : Int)) (h96 : h < 96) (A3 : Option Addr) (c3 : Nat) (S : List Bool) (A4 : Option Addr) (c4 : Nat) (but : List Int) (w : World)
    (hS : Kd.C Kd.bool w A3 S.length S) (hSc : S.length ≤ c3) (hB : Kd.C (Kd.int .i64) w A4 but.length but) (hBc : but.length ≤ c4) (hSl : S.length < 1000000) (hBl : but.length < 1000000) :
    Calls Try.prog 26 #[.agg (ints P), .slice A3 S.length c3, .slice A4 but.length c4] w (RT P S (rndP P but h 96) w) := by
  have hz := zv41
  have hne := zne
  have hp0 : PS (w.alloc (.cells (ints P) 41 (0, 0))) w.heap.size P := blk_new w _
  have hp1 : PS ((w.alloc (.cells (ints P) 41 (0, 0))).alloc (.cells (ints zer97) 41 (0, 0))) (w.heap.size + 1) zer97 := by
    have := blk_new (w.alloc (.cells (ints P) 41 (0, 0))) (.cells (ints zer97) 41 (0, 0))
    rw [World.size_alloc] at this
    exact this
  have hp0' : PS ((w.alloc (.cells (ints P) 41 (0, 0))).alloc (.cells (ints zer97) 41 (0, 0))) w.heap.size P := blk_alloc hp0 (.cells (ints zer97) 41 (0, 0))
  have hb := below_alloc (below_alloc (Below.refl _ w) (.cells (ints P) 41 (0, 0))) (.cells (ints zer97) 41 (0, 0))
  have hz1 : ((w.alloc (.cells (ints P) 41 (0, 0))).alloc (.cells (ints zer97) 41 (0, 0))).heap.size = w.heap.size + 2 := by rw [World.size_alloc, World.size_alloc]
  replace hp0' := Aside0.mk hp0'
  replace hp1 := Aside0.mk hp1
  replace hb := Aside0.mk hb
  replace hz1 := Aside0.mk hz1
  replace hP := Aside0.mk hP
  replace hh := Aside0.mk hh
  replace hS := Aside0.mk hS
  replace hB := Aside0.mk hB
  replace hSc := Aside0.mk hSc
  replace hBc := Aside0.mk hBc
  replace hSl := Aside0.mk hSl
  replace hBl := Aside0.mk hBl
  clear hp0
  go_enter Try.func26, Try.ntmps26
  go_upto_region 1 with (fail)
  generalize (w.alloc (.cells (ints P) 41 (0, 0))).alloc (.cells (ints zer97) 41 (0, 0)) = w1 at hp0' hp1 hb hz1 ⊢
  clear hz hne
  go_wp2
  go_loopg [9, 11, 12, 13, 14] 96 (fun kq v9 v11 v12 v13 v14 w' => ∃ (k : Nat) (A1 : Option Addr) (c1 : Nat) (F : List Int), v9 = .slice A1 F.length c1 ∧ v11 = .int .i64 (k : Int) ∧ Aside0 (k + kq = 96 ∧ F = rndP P but h k) ∧ Aside0 (RI w' w1.heap.size (fun _ => True) (.slice A1 F.length c1) F) ∧ Aside0 (Below w1.heap.size w1 w'))
  case atStart => exact ⟨0, none, 0, [], rfl, rfl, ⟨rfl, rfl⟩, ⟨Kd.R_nil _ _ _ _ _⟩, ⟨Below.refl _ _⟩⟩
  case round =>
    obtain ⟨k, A1, c1, F, rfl, rfl, HK, HR, HB⟩ := hrel
    cases gk with
    | zero =>
      obtain rfl : k = 96 := by have := HK.out; omega
      have e1 : decide (((96 : Nat) : Int) < 96) = false := by decide
      have hpw := blk_below hp0'.out HB.out
      have hpw1 := blk_below hp1.out HB.out
      have hF := HK.out.2
      have hFl := rndP_length P but h 96
      have hFm := rndP_mem P but h 96
      rw [← hF] at hFl hFm
      obtain ⟨xs, hxs⟩ : ∃ xs, xs = rndP P but h 96 := ⟨_, rfl⟩
      rw [← hxs] at hF
      subst hF
      replace hxs := Aside0.mk hxs
      replace hpw := Aside0.mk hpw
      replace hpw1 := Aside0.mk hpw1
      replace hFl := Aside0.mk hFl
      replace hFm := Aside0.mk hFm
      have hbw : Aside0 (Below w.heap.size w wr) := ⟨hb.out.trans (Below_low HB.out hb.out.size)⟩
      have hzr : Aside0 (w1.heap.size ≤ wr.heap.size) := ⟨HB.out.size⟩
      by_cases hx0 : F.length = 0
      · have hnil : F = [] := List.length_eq_zero_iff.1 hx0
        subst hnil
        go_wp2_with (first | ((with_reducible refine gate_ld rfl ?_); refine wl_ld rfl _ rfl rfl hpw.out hP.out ?_) | ((with_reducible refine gate_st rfl ?_); refine wl_st rfl _ _ rfl rfl rfl hpw1.out lz97 hP.out ?_; intro w5 hp5 hf5; replace hp5 := Aside0.mk hp5; replace hf5 := Aside0.mk hf5))
        exact bodyPost_ret (results_cell3 rfl _ _ (w.heap.size + 1) P hP.out rfl hp5.out) rfl ⟨hbw.out.trans (hf5.out.below hbw.out.size (fun i e => by rw [e]; omega)), .inl ⟨hxs.out.symm, rfl⟩⟩
      have hp : 0 < F.length := by omega
      have z0 : ((F.length : Int) == 0) = false := beq_eq_false_iff_ne.mpr (by omega)
      have z1 : ¬ (F.length : Int) = 0 := by omega
      obtain ⟨g1, cg, eA, _, hg1, _⟩ := Kd.R_form HR.out hp
      injection eA with eA _ eA'
      subst eA
      subst eA'
      have hF0 : ∃ x : Nat, F[0] = (x : Int) ∧ x < 96 := hFm.out _ (List.getElem_mem hp)
      obtain ⟨x, hx, hx96⟩ := hF0
      obtain ⟨kb, _⟩ := Kd.R_celln (0 : Int) HR.out 0 (by omega) (by omega)
      have e0 : rdOf (0 : Int) F 0 = (x : Int) := by rw [← hx]; unfold rdOf; simp [hp]
      rw [e0] at kb
      have kb0 : wr.cell? ⟨g1, 0, none⟩ = some (.int .i64 (x : Int)) := kb
      have hd0 : decide (0 < F.length) = true := decide_eq_true hp
      have hd1 : decide ((0 : Int) < (F.length : Int)) = true := decide_eq_true (by omega)
      have hw2 := w2n F.length (by have := hFl.out; omega)
      obtain ⟨m, hm⟩ : ∃ m, m = 2 * F.length := ⟨_, rfl⟩
      rw [← hm] at hw2
      have hm200 : m ≤ 200 := by have := hFl.out; omega
      obtain ⟨r, hr⟩ : ∃ r, F = (x : Int) :: r := by
        cases F with
        | nil => simp at hp
        | cons y ys => exact ⟨ys, by simp at hx; rw [hx]⟩
      replace hr := Aside0.mk hr
      clear hx
      replace hm := Aside0.mk hm
      obtain ⟨N, hN⟩ : ∃ N, N = wr.heap.size := ⟨_, rfl⟩
      have hg1N : Aside0 (g1 < N) := ⟨by rw [hN]; exact hg1⟩
      have hN2 : Aside0 (w.heap.size + 2 ≤ N) := ⟨by rw [hN]; have := hzr.out; have := hz1.out; omega⟩
      have hNr : Aside0 (N ≤ wr.heap.size) := ⟨by rw [hN]; exact Nat.le_refl _⟩
      clear hN kb e0
      replace hzr := Aside0.mk hzr.out
      have HR0 := HR
      have hfr : Aside0 (Far (fun k => N ≤ k) wr wr) := ⟨Far.refl _ _⟩
      go_upto_region 16 with (fail)
      clear kb0 hd0 hd1 hp
      have hFW : Aside0 (∀ W, Far (fun k => N ≤ k) wr W → RI W w1.heap.size (fun _ => True) (.slice (some ⟨g1, 0, none⟩) F.length c1) F ∧ Below w.heap.size w W ∧ PS W w.heap.size P ∧ PS W (w.heap.size + 1) zer97 ∧ N ≤ W.heap.size) := ⟨fun W hf => ⟨Kd.R_mono (Kd.R_step (Kd.R_tight rfl HR.out) (fun k hk hlt => hf.block k hlt (fun e => by have e2 : g1 = k := Option.some.inj hk.symm; have := hg1N.out; omega))) (fun _ _ => trivial), hbw.out.trans (hf.below hbw.out.size (fun k hk => by have := hN2.out; omega)), hf.blk hpw.out (fun e => by have := hN2.out; omega), hf.blk hpw1.out (fun e => by have := hN2.out; omega), Nat.le_trans hNr.out hf.size⟩⟩
      clear HR HR0 hpw hpw1 hbw hzr
      go_wp2
      go_loopg [10, 15, 16, 17] m (fun kq v10 v15 v16 v17 w' => ∃ (i : Nat) (s : List Int) (A2 : Option Addr) (c2 : Nat), v10 = .slice A2 s.length c2 ∧ v15 = .int .i64 (x : Int) ∧ v16 = .int .i64 (i : Int) ∧ Aside0 (i + kq = m ∧ s.length = i) ∧ Aside0 (askAll (askS S) nxtS [] (F ++ F) = askAll (askS S) nxtS s ((F ++ F).drop i)) ∧ Aside0 (RI w' N (fun _ => True) (.slice A2 s.length c2) s) ∧ Aside0 (Far (fun k => N ≤ k) wr w'))
      case atStart => exact ⟨0, [], none, 0, rfl, rfl, rfl, ⟨by omega, rfl⟩, ⟨rfl⟩, ⟨Kd.R_nil _ _ _ _ _⟩, hfr⟩
      case round =>
        obtain ⟨i, s, A2, c2, rfl, rfl, rfl, HK2, HA, HR2, HF2⟩ := hrel
        clear hfr
        obtain ⟨hRF, hBF, hpz, hpz1, hNz⟩ := hFW.out _ HF2.out
        have k96 := ints_cell hpz 96 (by have := hP.out; omega)
        have f96 := blk_frozen hpz 96
        rw [hh.out] at k96
        replace hpz := Aside0.mk hpz
        replace hpz1 := Aside0.mk hpz1
        replace hRF := Aside0.mk hRF
        replace hBF := Aside0.mk hBF
        replace hNz := Aside0.mk hNz
        cases gk with
        | zero =>
          obtain rfl : i = m := by have := HK2.out; omega
          have e1 : decide ((i : Int) < (i : Int)) = false := decide_eq_false (by omega)
          have hA : askAll (askS S) nxtS [] (F ++ F) = (s, none) := by
            have := HA.out
            rw [List.drop_of_length_le (by rw [List.length_append]; have := hm.out; omega)] at this
            exact this
          have hy : (x : Int) = (askAll (askS S) nxtS [] (F ++ F)).2.getD (x : Int) := by rw [hA]; rfl
          have hy1 : (askAll (askS S) nxtS [] (F ++ F)).1 = s := by rw [hA]
          replace hA := Aside0.mk hA
          obtain ⟨y, hyx⟩ : ∃ y : Nat, y = x := ⟨_, rfl⟩
          have hy2 : (y : Int) = (askAll (askS S) nxtS [] (F ++ F)).2.getD (x : Int) := by rw [hyx]; exact hy
          have hy96 : y < 96 := by omega
          obtain rfl := hyx
          clear hy
          obtain ⟨v, hv⟩ : ∃ v, v = ((y + 1) % 96 : Nat) := ⟨_, rfl⟩
          have hmt : Int.tmod ((y : Int) + 1) 96 = (v : Int) := by rw [Int.tmod_eq_emod_of_nonneg (by omega), hv]; omega
          have hset : PS (wr.setCell ⟨w.heap.size, 96, none⟩ (.int .i64 (v : Int))) w.heap.size (P.set 96 (v : Int)) := ints_set hpz.out 96 (v : Int)
          have hfar := Far.setCell (S := fun i => i = w.heap.size) (Far.refl _ wr) (p := ⟨w.heap.size, 96, none⟩) (.inl rfl) (.int .i64 (v : Int))
          have hp1' : PS (wr.setCell ⟨w.heap.size, 96, none⟩ (.int .i64 (v : Int))) (w.heap.size + 1) zer97 := hfar.blk hpz1.out (fun e => by omega)
          have hl2 : (P.set 96 (v : Int)).length = 97 := by rw [List.length_set]; exact hP.out
          obtain ⟨P2, hP2⟩ : ∃ P2, P2 = P.set 96 (v : Int) := ⟨_, rfl⟩
          rw [← hP2] at hset hl2
          replace hP2 := Aside0.mk hP2
          replace hset := Aside0.mk hset
          replace hfar := Aside0.mk hfar
          replace hp1' := Aside0.mk hp1'
          replace hl2 := Aside0.mk hl2
          replace hv := Aside0.mk hv
          have hy2' := Aside0.mk (hy2)
          have hy1' := Aside0.mk (hy1)
          clear hy1 hy2
          go_wp2_with (first | ((with_reducible refine gate_ld rfl ?_); refine wl_ld rfl _ rfl rfl hset.out hl2.out ?_) | ((with_reducible refine gate_st rfl ?_); refine wl_st rfl _ _ rfl rfl rfl hp1'.out lz97 hl2.out ?_; intro w5 hp5 hf5; replace hp5 := Aside0.mk hp5; replace hf5 := Aside0.mk hf5))
          have hff : Far (fun k => k = w.heap.size ∨ k = w.heap.size + 1) wr w5 := (hfar.out.mono (fun k hk => .inl hk)).then_ (hf5.out.mono (fun k hk => .inr hk))
          have hRl : RI w5 w.heap.size (fun _ => True) (.slice A2 s.length c2) s := Kd.R_lower (Kd.R_mono (ok' := fun _ => True) (Kd.R_step (Kd.R_tight rfl HR2.out) (fun k hk hlt => hff.block k hlt (fun e => by have h1 := Kd.R_base HR2.out k hk.symm; have h2 := hN2.out; rcases e with e | e <;> omega))) (fun _ _ => trivial)) (by have := hN2.out; omega)
          exact bodyPost_ret (results_cell3 rfl _ _ (w.heap.size + 1) P2 hl2.out rfl hp5.out) rfl ⟨hBF.out.trans (hff.below hBF.out.size (fun k e => by rcases e with e | e <;> omega)), .inr ⟨(y : Int), r, y, A2, c2, by rw [← hxs.out]; exact hr.out, hy96, by rw [← hxs.out]; exact hy2'.out, by rw [← hxs.out, hy1'.out, ← hv.out, ← hP2.out]; rfl, by rw [← hxs.out, hy1'.out]; exact hRl⟩⟩
        | succ kk =>
          have hi : i < m := by have := HK2.out; omega
          have e1 : decide ((i : Int) < (m : Int)) = true := decide_eq_true (by omega)
          have e2 : decide (i < m) = true := decide_eq_true hi
          have hmi : i < 2 * F.length := by rw [← hm.out]; exact hi
          have hFp : 0 < F.length := by omega
          have hjl : i % F.length < F.length := Nat.mod_lt _ hFp
          obtain ⟨j, hj⟩ : ∃ j, j = i % F.length := ⟨_, rfl⟩
          have ht : Int.tmod (i : Int) (F.length : Int) = (j : Int) := by rw [Int.tmod_eq_emod_of_nonneg (by omega), hj]; rfl
          have hjl' : j < F.length := by rw [hj]; exact hjl
          obtain ⟨f, hf, hf96⟩ := hFm.out F[j] (List.getElem_mem hjl')
          have htw := twice_get F i hmi hjl
          have hij : F[i % F.length] = (f : Int) := by rw [← hf]; congr 1; exact hj.symm
          rw [hij] at htw
          have hA := HA.out
          rw [List.drop_eq_getElem_cons (show i < (F ++ F).length by rw [List.length_append]; omega), htw] at hA
          obtain ⟨kb, _⟩ := Kd.R_celln (0 : Int) hRF.out (j : Int) (by omega) (by omega)
          have e4 : rdOf (0 : Int) F (j : Int) = (f : Int) := by rw [← hf]; unfold rdOf; simp [hjl']
          rw [e4, Int.toNat_natCast] at kb
          have j0 : (0 : Int) ≤ (j : Int) := by omega
          have j1 : (j : Int) < (F.length : Int) := by omega
          have ws := Aside0.mk (w64s i (by omega))
          have hal : (s.length + 1) * 8 ≤ 140737488355328 := by have := HK2.out; omega
          have hlen := HK2.out.2
          have hi200 : i < 200 := by omega
          replace hal := Aside0.mk hal
          replace hlen := Aside0.mk hlen
          replace hmi := Aside0.mk hmi
          replace hFp := Aside0.mk hFp
          replace hj := Aside0.mk hj
          clear hjl hf htw hij e4
          go_upto_region 21 with ((with_reducible refine gate_builtin (b := .append) (xs := #[.tmp 74, .tmp 76]) rfl ?_); at_builtin; refine Kd.R_append (Kd.int .i64) (w0 := wr) N rfl (.tmp 74) (.tmp 76) 26 3 (.int .i64 0) 8 rfl Try.underlying26 info3 rfl (by decide) (by omega) (.slice A2 s.length c2) s (f : Int) [.int .i64 (f : Int)] (fun _ => True) (fun _ => False) rfl rfl ?aP (fun _ hk => hk.elim) ?aF ?aO ?aB ?aS ?aL ?_; (case aP => exact rfl); (case aB => exact Below.refl _ _); (case aF => exact (fun _ _ => trivial)); (case aO => exact HR2.out); (case aS => exact hNz.out); (case aL => exact hal.out); intro v4 w4 ho hb4 hg hat; obtain ⟨A5, c5, e5⟩ := Kd.R_slice ho; rw [List.length_append, List.length_singleton] at e5; subst e5; replace ho := Aside0.mk ho; replace hb4 := Aside0.mk hb4; replace hg := Aside0.mk hg; clear hat)
          have hf4 : Far (fun k => N ≤ k) wr w4 := ⟨hg.out.os, hg.out.tape, hg.out.output, hg.out.size, fun k hlt hn => hg.out.block k hlt (fun e => hn (Kd.R_base HR2.out k e.symm))⟩
          have HF4 := HF2.out.then_ hf4
          have hlen2 : (s ++ [(f : Int)]).length = i + 1 := by rw [List.length_append, hlen.out]; rfl
          have ho2 : RI w4 N (fun _ => True) (.slice A5 (nxtS s (f : Int)).length c5) (nxtS s (f : Int)) := by
            unfold nxtS
            rw [List.length_append]
            exact ho.out
          obtain ⟨_, hB4, hp4, hp41, hN4⟩ := hFW.out _ HF4
          have k964 := ints_cell hp4 96 (by have := hP.out; omega)
          have f964 := blk_frozen hp4 96
          rw [hh.out] at k964
          have hSW := Kd.C_below hS.out hB4
          have hnx : (nxtS s (f : Int)).length = s.length + 1 := by unfold nxtS; rw [List.length_append]; rfl
          replace ho2 := Aside0.mk ho2
          replace HF4 := Aside0.mk HF4
          replace hp4 := Aside0.mk hp4
          replace hp41 := Aside0.mk hp41
          replace hB4 := Aside0.mk hB4
          replace hN4 := Aside0.mk hN4
          replace hnx := Aside0.mk hnx
          clear ho hb4 hg hf4 k96 f96 hpz hpz1 hRF hBF HR2 hNz kb
          have hb5 : (askS S s (f : Int) = true ∧ i < S.length) ∨ askS S s (f : Int) = false := by
            unfold askS
            rw [hlen.out]
            by_cases h5 : i < S.length
            · rw [decide_eq_true h5, Bool.true_and]
              cases S.getD i false with
              | true => exact .inl ⟨rfl, h5⟩
              | false => exact .inr rfl
            · exact .inr (by rw [decide_eq_false h5]; rfl)
          by_cases h5 : i < S.length
          · obtain ⟨ad, hAd, ks⟩ := bool_at hSW i h5
            subst hAd
            have d1 : decide ((i : Int) ≥ (S.length : Int)) = false := decide_eq_false (by omega)
            have d2 : decide ((S.length : Int) ≤ (i : Int)) = false := decide_eq_false (by omega)
            have d3 : decide (S.length ≤ i) = false := decide_eq_false (by omega)
            have d4 : decide (i < S.length) = true := decide_eq_true h5
            have i0 : (0 : Int) ≤ (i : Int) := by omega
            have i1 : (i : Int) < (S.length : Int) := by omega
            have hask : askS S s (f : Int) = S[i] := by unfold askS; rw [hlen.out, d4, Bool.true_and]; simp [h5]
            cases hq : S[i] with
            | true =>
              rw [hq] at ks hask
              have hA2 : askAll (askS S) nxtS [] (F ++ F) = askAll (askS S) nxtS (nxtS s (f : Int)) ((F ++ F).drop (i + 1)) := by rw [hA]; show (if askS S s (f : Int) then _ else _) = _; rw [hask]; rfl
              replace hA2 := Aside0.mk hA2
              clear hA hask hb5 hq hSW
              go_wp2
              go_roundg kk
              case measure => omega
              case rel => exact ⟨i + 1, nxtS s (f : Int), A5, c5, by rw [hnx.out], rfl, by first | rw [ws.out] | rfl, ⟨by have := HK2.out; omega, hlen2⟩, hA2, ho2, HF4⟩
            | false =>
              rw [hq] at ks hask
              have hA2 : askAll (askS S) nxtS [] (F ++ F) = (nxtS s (f : Int), some (f : Int)) := by rw [hA]; show (if askS S s (f : Int) then _ else _) = _; rw [hask]; rfl
              clear hA hask hb5 hq hSW
              have hyb : (f : Int) = (askAll (askS S) nxtS [] (F ++ F)).2.getD (x : Int) := by rw [hA2]; rfl
              have hyb1 : (askAll (askS S) nxtS [] (F ++ F)).1 = nxtS s (f : Int) := by rw [hA2]
              clear hA2
              obtain ⟨v, hv⟩ : ∃ v, v = ((f + 1) % 96 : Nat) := ⟨_, rfl⟩
              have hmt : Int.tmod ((f : Int) + 1) 96 = (v : Int) := by rw [Int.tmod_eq_emod_of_nonneg (by omega), hv]; omega
              have hset : PS (w4.setCell ⟨w.heap.size, 96, none⟩ (.int .i64 (v : Int))) w.heap.size (P.set 96 (v : Int)) := ints_set hp4.out 96 (v : Int)
              have hfar := Far.setCell (S := fun i => i = w.heap.size) (Far.refl _ w4) (p := ⟨w.heap.size, 96, none⟩) (.inl rfl) (.int .i64 (v : Int))
              have hp1' : PS (w4.setCell ⟨w.heap.size, 96, none⟩ (.int .i64 (v : Int))) (w.heap.size + 1) zer97 := hfar.blk hp41.out (fun e => by omega)
              have hl2 : (P.set 96 (v : Int)).length = 97 := by rw [List.length_set]; exact hP.out
              obtain ⟨P2, hP2⟩ : ∃ P2, P2 = P.set 96 (v : Int) := ⟨_, rfl⟩
              rw [← hP2] at hset hl2
              replace hP2 := Aside0.mk hP2
              replace hset := Aside0.mk hset
              replace hfar := Aside0.mk hfar
              replace hp1' := Aside0.mk hp1'
              replace hl2 := Aside0.mk hl2
              replace hv := Aside0.mk hv
              have hy2' := Aside0.mk (hyb)
              have hy1' := Aside0.mk (hyb1)
              clear hyb hyb1
              go_wp2_with (first | ((with_reducible refine gate_ld rfl ?_); refine wl_ld rfl _ rfl rfl hset.out hl2.out ?_) | ((with_reducible refine gate_st rfl ?_); refine wl_st rfl _ _ rfl rfl rfl hp1'.out lz97 hl2.out ?_; intro w5 hp5 hf5; replace hp5 := Aside0.mk hp5; replace hf5 := Aside0.mk hf5))
              have hff : Far (fun k => k = w.heap.size ∨ k = w.heap.size + 1) w4 w5 := (hfar.out.mono (fun k hk => .inl hk)).then_ (hf5.out.mono (fun k hk => .inr hk))
              have hRl : RI w5 w.heap.size (fun _ => True) (.slice A5 (nxtS s (f : Int)).length c5) (nxtS s (f : Int)) := Kd.R_lower (Kd.R_mono (ok' := fun _ => True) (Kd.R_step (Kd.R_tight rfl ho2.out) (fun k hk hlt => hff.block k hlt (fun e => by have h1 := Kd.R_base ho2.out k hk.symm; have h2 := hN2.out; rcases e with e | e <;> omega))) (fun _ _ => trivial)) (by have := hN2.out; omega)
              exact bodyPost_ret (results_cell3 rfl _ _ (w.heap.size + 1) P2 hl2.out rfl hp5.out) rfl ⟨hB4.out.trans (hff.below hB4.out.size (fun k e => by rcases e with e | e <;> omega)), .inr ⟨(x : Int), r, f, A5, c5, by rw [← hxs.out]; exact hr.out, hf96, by rw [← hxs.out]; exact hy2'.out, by rw [← hxs.out, hy1'.out, ← hv.out, ← hP2.out, hnx.out]; rfl, by rw [← hxs.out, hy1'.out]; exact hRl⟩⟩
          · have d1 : decide ((i : Int) ≥ (S.length : Int)) = true := decide_eq_true (by omega)
            have d2 : decide ((S.length : Int) ≤ (i : Int)) = true := decide_eq_true (by omega)
            have d3 : decide (S.length ≤ i) = true := decide_eq_true (by omega)
            have hask : askS S s (f : Int) = false := by unfold askS; rw [hlen.out, decide_eq_false h5, Bool.false_and]
            have hA2 : askAll (askS S) nxtS [] (F ++ F) = (nxtS s (f : Int), some (f : Int)) := by rw [hA]; show (if askS S s (f : Int) then _ else _) = _; rw [hask]; rfl
            clear hA hask hb5 hSW
            have hyb : (f : Int) = (askAll (askS S) nxtS [] (F ++ F)).2.getD (x : Int) := by rw [hA2]; rfl
            have hyb1 : (askAll (askS S) nxtS [] (F ++ F)).1 = nxtS s (f : Int) := by rw [hA2]
            clear hA2
            obtain ⟨v, hv⟩ : ∃ v, v = ((f + 1) % 96 : Nat) := ⟨_, rfl⟩
            have hmt : Int.tmod ((f : Int) + 1) 96 = (v : Int) := by rw [Int.tmod_eq_emod_of_nonneg (by omega), hv]; omega
            have hset : PS (w4.setCell ⟨w.heap.size, 96, none⟩ (.int .i64 (v : Int))) w.heap.size (P.set 96 (v : Int)) := ints_set hp4.out 96 (v : Int)
            have hfar := Far.setCell (S := fun i => i = w.heap.size) (Far.refl _ w4) (p := ⟨w.heap.size, 96, none⟩) (.inl rfl) (.int .i64 (v : Int))
            have hp1' : PS (w4.setCell ⟨w.heap.size, 96, none⟩ (.int .i64 (v : Int))) (w.heap.size + 1) zer97 := hfar.blk hp41.out (fun e => by omega)
            have hl2 : (P.set 96 (v : Int)).length = 97 := by rw [List.length_set]; exact hP.out
            obtain ⟨P2, hP2⟩ : ∃ P2, P2 = P.set 96 (v : Int) := ⟨_, rfl⟩
            rw [← hP2] at hset hl2
            replace hP2 := Aside0.mk hP2
            replace hset := Aside0.mk hset
            replace hfar := Aside0.mk hfar
            replace hp1' := Aside0.mk hp1'
            replace hl2 := Aside0.mk hl2
            replace hv := Aside0.mk hv
            have hy2' := Aside0.mk (hyb)
            have hy1' := Aside0.mk (hyb1)
            clear hyb hyb1
            go_wp2_with (first | ((with_reducible refine gate_ld rfl ?_); refine wl_ld rfl _ rfl rfl hset.out hl2.out ?_) | ((with_reducible refine gate_st rfl ?_); refine wl_st rfl _ _ rfl rfl rfl hp1'.out lz97 hl2.out ?_; intro w5 hp5 hf5; replace hp5 := Aside0.mk hp5; replace hf5 := Aside0.mk hf5))
            have hff : Far (fun k => k = w.heap.size ∨ k = w.heap.size + 1) w4 w5 := (hfar.out.mono (fun k hk => .inl hk)).then_ (hf5.out.mono (fun k hk => .inr hk))
            have hRl : RI w5 w.heap.size (fun _ => True) (.slice A5 (nxtS s (f : Int)).length c5) (nxtS s (f : Int)) := Kd.R_lower (Kd.R_mono (ok' := fun _ => True) (Kd.R_step (Kd.R_tight rfl ho2.out) (fun k hk hlt => hff.block k hlt (fun e => by have h1 := Kd.R_base ho2.out k hk.symm; have h2 := hN2.out; rcases e with e | e <;> omega))) (fun _ _ => trivial)) (by have := hN2.out; omega)
            exact bodyPost_ret (results_cell3 rfl _ _ (w.heap.size + 1) P2 hl2.out rfl hp5.out) rfl ⟨hB4.out.trans (hff.below hB4.out.size (fun k e => by rcases e with e | e <;> omega)), .inr ⟨(x : Int), r, f, A5, c5, by rw [← hxs.out]; exact hr.out, hf96, by rw [← hxs.out]; exact hy2'.out, by rw [← hxs.out, hy1'.out, ← hv.out, ← hP2.out, hnx.out]; rfl, by rw [← hxs.out, hy1'.out]; exact hRl⟩⟩
    | succ k2 =>
      have hk : k < 96 := by have := HK.out; omega
      have e1 : decide ((k : Int) < 96) = true := decide_eq_true (by omega)
      have e2 : decide (k < 96) = true := decide_eq_true hk
      obtain ⟨f, hf⟩ : ∃ f, f = (h + k) % 96 := ⟨_, rfl⟩
      have hf96 : f < 96 := by omega
      have hm : Int.tmod ((h : Int) + (k : Int)) 96 = (f : Int) := by rw [Int.tmod_eq_emod_of_nonneg (by omega)]; omega
      have hpw := blk_below hp0'.out HB.out
      have k96 := ints_cell hpw 96 (by have := hP.out; omega)
      rw [hh.out] at k96
      have kf := ints_cell hpw f (by have := hP.out; omega)
      have f0 : (0 : Int) ≤ (f : Int) := by omega
      have f1 : (f : Int) < 96 := by omega
      have rs := rndP_succ P but h k
      rw [← hf, ← HK.out.2] at rs
      have ws := Aside0.mk (w64s k (by omega))
      have hal : (F.length + 1) * 8 ≤ 140737488355328 := by have := rndP_length P but h k; rw [← HK.out.2] at this; omega
      have hzr : w1.heap.size ≤ wr.heap.size := HB.out.size
      have hCb := Kd.C_below hB.out (hb.out.trans (Below_low HB.out hb.out.size))
      obtain ⟨v, hv⟩ : ∃ v, v = P.getD f 0 := ⟨_, rfl⟩
      rw [← hv] at kf rs
      obtain ⟨b, hbv⟩ : ∃ b, b = decide (v < 0) := ⟨_, rfl⟩
      have hbv' : decide (v < 0) = b := hbv.symm
      rw [hbv'] at rs
      replace hal := Aside0.mk hal
      replace hzr := Aside0.mk hzr
      replace rs := Aside0.mk rs
      replace hf := Aside0.mk hf
      replace hv := Aside0.mk hv
      replace hCb := Aside0.mk hCb
      replace hbv := Aside0.mk hbv
      clear hpw
      go_upto_region 7 with (fail)
      go_wp2
      go_loopg [13, 14] but.length (fun kq v13 v14 w' => ∃ (j : Nat) (o : Bool), v13 = .bool o ∧ v14 = .int .i64 (j : Int) ∧ Aside0 (j + kq = but.length ∧ o = (b || (but.take j).contains (f : Int))) ∧ Aside0 (w' = wr))
      case atStart => exact ⟨0, b, by first | rfl | (rw [hbv']) | (simp [hbv']), rfl, ⟨by omega, by simp⟩, ⟨rfl⟩⟩
      case round =>
        obtain ⟨j, o, rfl, rfl, HJ, HW⟩ := hrel
        obtain rfl := HW.out
        cases gk with
        | zero =>
          obtain rfl : j = but.length := by have := HJ.out; omega
          have g1 : decide ((but.length : Int) < (but.length : Int)) = false := decide_eq_false (by omega)
          have ho := HJ.out.2
          rw [List.take_length] at ho
          rw [← ho] at rs
          replace ho := Aside0.mk ho
          cases o with
          | true =>
            go_wp2
            go_roundg k2
            case measure => omega
            case rel => exact ⟨k + 1, A1, c1, F, rfl, by first | rw [ws.out] | rfl, ⟨by have := HK.out; omega, by rw [rs.out]; rfl⟩, HR, HB⟩
          | false =>
            go_wp2_with ((with_reducible refine gate_builtin (b := .append) (xs := #[.tmp 49, .tmp 51]) rfl ?_); at_builtin; refine Kd.R_append (Kd.int .i64) (w0 := w1) w1.heap.size rfl (.tmp 49) (.tmp 51) 26 3 (.int .i64 0) 8 rfl Try.underlying26 info3 rfl (by decide) (by omega) (.slice A1 F.length c1) F (f : Int) [.int .i64 (f : Int)] (fun _ => True) (fun _ => False) rfl rfl ?aP (fun _ hk => hk.elim) ?aF ?aO ?aB ?aS ?aL ?_; (case aP => exact rfl); (case aB => exact HB.out); (case aF => exact (fun _ _ => trivial)); (case aO => exact HR.out); (case aS => exact hzr.out); (case aL => exact hal.out); intro v4 w4 ho4 hb4 hg hat; obtain ⟨A4', c4', e4⟩ := Kd.R_slice ho4; subst e4; have HR4 := Aside0.mk ho4; have HB4 := Aside0.mk hb4; clear ho4 hb4 hg hat)
            go_roundg k2
            case measure => omega
            case rel => exact ⟨k + 1, A4', c4', F ++ [(f : Int)], by first | rfl | simp, by first | rw [ws.out] | rfl, ⟨by have := HK.out; omega, by rw [rs.out]; rfl⟩, HR4, HB4⟩
        | succ k3 =>
          have hj : j < but.length := by have := HJ.out; omega
          have g1 : decide ((j : Int) < (but.length : Int)) = true := decide_eq_true (by omega)
          have g2 : decide (j < but.length) = true := decide_eq_true hj
          have j0 : (0 : Int) ≤ (j : Int) := by omega
          have j1 : (j : Int) < (but.length : Int) := by omega
          have hjb : j < 1000000 := by have := hBl.out; omega
          have wj := Aside0.mk (w64s j (by omega))
          have htc := take_contains but j hj (f : Int)
          have ho := HJ.out.2
          cases o with
          | true =>
            have ho2 : true = (b || (but.take (j + 1)).contains (f : Int)) := by rw [htc, ← Bool.or_assoc, ← ho]; rfl
            replace ho2 := Aside0.mk ho2
            clear htc ho
            go_wp2
            go_roundg k3
            case measure => omega
            case rel => exact ⟨j + 1, true, rfl, by first | rw [wj.out] | rfl, ⟨by have := HJ.out; omega, ho2.out⟩, ⟨rfl⟩⟩
          | false =>
            obtain ⟨ad, hAd, kb⟩ := Ci_at hCb.out j hj
            subst hAd
            obtain ⟨q, hq⟩ : ∃ q, q = (but[j] == (f : Int)) := ⟨_, rfl⟩
            have ho2 : q = (b || (but.take (j + 1)).contains (f : Int)) := by rw [htc, ← Bool.or_assoc, ← ho, hq]; rfl
            have hq' : (but[j] == (f : Int)) = q := hq.symm
            replace ho2 := Aside0.mk ho2
            replace hq := Aside0.mk hq
            clear htc ho
            generalize but[j] = bj at kb hq'
            cases q with
            | true =>
              go_wp2
              go_roundg k3
              case measure => omega
              case rel => exact ⟨j + 1, true, rfl, by first | rw [wj.out] | rfl, ⟨by have := HJ.out; omega, ho2.out⟩, ⟨rfl⟩⟩
            | false =>
              go_wp2
              go_roundg k3
              case measure => omega
              case rel => exact ⟨j + 1, false, rfl, by first | rw [wj.out] | rfl, ⟨by have := HJ.out; omega, ho2.out⟩, ⟨rfl⟩⟩

end Go.Proofs.Ytmmnkanijdbgpaa.Hand
