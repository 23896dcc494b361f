/- The document's Note, walked by hand: bounds; what is noted (written by genQ4.py). -/
import Derived.Test.YtfmkjdbhijeejaaQ4
namespace Go.Proofs.Ytfmkjdbhijeejaa.Hand
set_option linter.unusedVariables false
set_option linter.unusedSimpArgs false
open Go.RowKit Go.Proofs.Ytfmkjdbhijeejaa.R Go.Proofs.YtfmkjdbhijeejaaW.PrintWords Go.Proofs.YtfmkjdbhijeejaaW.PrintMore

/-- An entry that is noted, of its uses alone. -/
def newN (page frame : Int) (us : List Int) : NN := useN us ⟨page, frame, false, false, false, false, false⟩

set_option maxHeartbeats 8000000 in
set_option maxRecDepth 100000 in
/-- A page or frame that may not be. -/
theorem rnote_out (A : Option Addr) (n c : Nat) (page frame : Int) (B : Option Addr) (cb : Nat) (us : List Int) (w : World) (hU : Kd.C (Kd.int .i64) w B us.length us) (hul : us.length ≤ 100000) (hall : us.all goodU = true) (hout : page < 0 ∨ page ≥ 68719476736 ∨ frame < 0 ∨ frame > 95) :
    Calls Try.prog 16 #[.slice A n c, .int .i64 page, .int .i64 frame, .slice B us.length cb] w fun e w' => e = .returned (.tuple #[.slice A n c, .bool false]) ∧ Below w.heap.size w w' := by
  replace hU := Aside0.mk hU
  replace hul := Aside0.mk hul
  replace hout := Aside0.mk hout
  obtain ⟨x, hx⟩ : ∃ x, Aside0 (useN us ⟨page, frame, false, false, false, false, false⟩ = x) := ⟨_, ⟨rfl⟩⟩
  go_enter Try.func16, Try.ntmps16
  go_wp2
  go_loopg [11] us.length (fun kq v11 w' => ∃ (i : Nat) (y : NN), v11 = .int .i64 (i : Int) ∧ Aside0 (i + kq = us.length ∧ (us.drop i).all goodU = true ∧ useN (us.drop i) y = x) ∧ Aside0 (XB w' w.heap.size y) ∧ Aside0 (Below w.heap.size w w'))
  case atStart => exact ⟨0, ⟨page, frame, false, false, false, false, false⟩, rfl, ⟨by omega, by simpa using hall, by simpa using hx.out⟩, ⟨blk_new w _⟩, ⟨below_alloc (Below.refl _ w) _⟩⟩
  case round =>
    obtain ⟨i, y, rfl, HK, HX, HB⟩ := hrel
    cases gk with
    | zero =>
      obtain rfl : i = us.length := by have := HK.out; omega
      have d3 : decide (((us.length : Nat) : Int) < ((us.length : Nat) : Int)) = false := decide_eq_false (by omega)
      have ey : y = x := by
        have h := HK.out.2.2
        rw [List.drop_eq_nil_of_le (Nat.le_refl _)] at h
        exact h
      subst ey
      clear d3
      have d3 : decide (((us.length : Nat) : Int) < ((us.length : Nat) : Int)) = false := decide_eq_false (by omega)
      by_cases h1 : page < 0
      · have f1 : decide (page < 0) = true := decide_eq_true h1
        go_wp2
        go_returns
        exact ⟨rfl, HB.out⟩
      · have f1 : decide (page < 0) = false := decide_eq_false h1
        by_cases h2 : page ≥ 68719476736
        · have f2 : decide (page ≥ 68719476736) = true := decide_eq_true h2
          go_wp2
          go_returns
          exact ⟨rfl, HB.out⟩
        · have f2 : decide (page ≥ 68719476736) = false := decide_eq_false h2
          by_cases h3 : frame < 0
          · have f3 : decide (frame < 0) = true := decide_eq_true h3
            go_wp2
            go_returns
            exact ⟨rfl, HB.out⟩
          · have f3 : decide (frame < 0) = false := decide_eq_false h3
            have h4 : frame > 95 := by have := hout.out; omega
            have f4 : decide (frame > 95) = true := decide_eq_true h4
            go_wp2
            go_returns
            exact ⟨rfl, HB.out⟩
    | succ k1 =>
      have hi : i < us.length := by have := HK.out; omega
      have d3 : decide ((i : Int) < ((us.length : Nat) : Int)) = true := decide_eq_true (by omega)
      have d4 : decide (0 ≤ (i : Int)) = true := decide_eq_true (by omega)
      have ws := Aside0.mk (w64s i (by have := hul.out; omega))
      obtain ⟨bd, eB, hc⟩ := elemI (Kd.C_below hU.out HB.out) i hi
      have hd := HK.out.2.1
      have hx2 := HK.out.2.2
      rw [useN_drop us y i hi] at hx2
      rw [List.drop_eq_getElem_cons hi, List.all_cons] at hd
      generalize us[i] = u at hc hd hx2
      subst eB
      have hg : goodU u = true := by
        rw [Bool.and_eq_true] at hd
        exact hd.1
      rw [hg, Bool.true_and] at hd
      replace hd := Aside0.mk hd
      have go1 : ∀ k : Nat, k < 5 → Aside0 (XB (wr.setCell ⟨w.heap.size, 2 + k, none⟩ (.bool true)) w.heap.size (y.setU k true)) ∧ Aside0 (Below w.heap.size w (wr.setCell ⟨w.heap.size, 2 + k, none⟩ (.bool true))) := fun k hk => ⟨⟨HX.out.put k hk true⟩, ⟨HB.out.setCell (Nat.le_refl _) _⟩⟩
      rcases (goodU_iff u).1 hg with rfl | rfl | rfl
      · have fz := blk_frozen HX.out 3
        have cx : wr.cell? ⟨w.heap.size, 3, none⟩ = some (.bool (y.use 1)) := HX.out.use 1 (by omega)
        have g := go1 1 (by omega)
        replace hx2 := Aside0.mk hx2
        clear go1 hg
        go_wp2
        go_roundg k1
        case measure => omega
        case rel => exact ⟨i + 1, y.setU 1 true, by rw [ws.out], ⟨by have := HK.out; omega, hd.out, hx2.out⟩, g.1, g.2⟩
      · have fz := blk_frozen HX.out 4
        have cx : wr.cell? ⟨w.heap.size, 4, none⟩ = some (.bool (y.use 2)) := HX.out.use 2 (by omega)
        have g := go1 2 (by omega)
        replace hx2 := Aside0.mk hx2
        clear go1 hg
        go_wp2
        go_roundg k1
        case measure => omega
        case rel => exact ⟨i + 1, y.setU 2 true, by rw [ws.out], ⟨by have := HK.out; omega, hd.out, hx2.out⟩, g.1, g.2⟩
      · have fz := blk_frozen HX.out 6
        have cx : wr.cell? ⟨w.heap.size, 6, none⟩ = some (.bool (y.use 4)) := HX.out.use 4 (by omega)
        have g := go1 4 (by omega)
        replace hx2 := Aside0.mk hx2
        clear go1 hg
        go_wp2
        go_roundg k1
        case measure => omega
        case rel => exact ⟨i + 1, y.setU 4 true, by rw [ws.out], ⟨by have := HK.out; omega, hd.out, hx2.out⟩, g.1, g.2⟩

/-- The first uses joined. -/
def orK (y z : NN) (k : Nat) : NN := ⟨y.page, y.frame, y.u0 || (decide (0 < k) && z.u0), y.u1 || (decide (1 < k) && z.u1), y.u2 || (decide (2 < k) && z.u2), y.u3 || (decide (3 < k) && z.u3), y.u4 || (decide (4 < k) && z.u4)⟩
theorem orK_zero (y z : NN) : orK y z 0 = y := by unfold orK; simp
theorem orK_five (y z : NN) : orK y z 5 = y.or z := by unfold orK NN.or; simp
theorem orK_use (y z : NN) (k : Nat) (hk : k < 5) : (orK y z k).use k = y.use k := by
  match k, hk with
  | 0, _ => unfold orK NN.use; simp
  | 1, _ => unfold orK NN.use; simp
  | 2, _ => unfold orK NN.use; simp
  | 3, _ => unfold orK NN.use; simp
  | 4, _ => unfold orK NN.use; simp
theorem orK_set (y z : NN) (k : Nat) (hk : k < 5) : (orK y z k).setU k (y.use k || z.use k) = orK y z (k + 1) := by
  match k, hk with
  | 0, _ => unfold orK NN.use NN.setU; simp
  | 1, _ => unfold orK NN.use NN.setU; simp
  | 2, _ => unfold orK NN.use NN.setU; simp
  | 3, _ => unfold orK NN.use NN.setU; simp
  | 4, _ => unfold orK NN.use NN.setU; simp
theorem joinR_snoc (x : NN) (l : List NN) (i : Nat) (hi : i < l.length) : joinR x (l.take (i + 1)) = if l[i].page % 16 ≠ x.page % 16 then joinR x (l.take i) else if l[i].page = x.page ∧ l[i].frame = x.frame then (joinR x (l.take i)).or l[i] else joinR x (l.take i) := by
  have hp := joinR_page (l.take i) x
  rw [List.take_succ_eq_append_getElem hi]
  unfold joinR at hp ⊢
  rw [List.foldl_append, List.foldl_cons, List.foldl_nil, hp.1, hp.2]
  by_cases h : l[i].page % 16 = x.page % 16
  · by_cases h2 : l[i].page = x.page
    · by_cases h3 : l[i].frame = x.frame <;> simp [h, h2, h3]
    · simp [h, h2]
  · simp [h]
theorem stayR_snoc (p : Int) (l : List NN) (i : Nat) (hi : i < l.length) : stayR p (l.take (i + 1)) = if l[i].page % 16 ≠ p % 16 then stayR p (l.take i) ++ [l[i]] else stayR p (l.take i) := by
  unfold stayR
  rw [List.take_succ_eq_append_getElem hi, List.filter_append]
  by_cases h : l[i].page % 16 = p % 16 <;> simp [h]
theorem stayR_length (p : Int) (l : List NN) (i : Nat) : (stayR p (l.take i)).length ≤ l.length := by
  unfold stayR
  refine Nat.le_trans (List.length_filter_le _ _) ?_
  rw [List.length_take]
  omega
theorem XB.lits {w : World} {b : Nat} {x : NN} (h : XB w b x) : w.cell? ⟨b, 0, none⟩ = some (.int .i64 x.page) ∧ w.cell? ⟨b, 1, none⟩ = some (.int .i64 x.frame) ∧ w.cell? ⟨b, 2, none⟩ = some (.bool x.u0) ∧ w.cell? ⟨b, 3, none⟩ = some (.bool x.u1) ∧ w.cell? ⟨b, 4, none⟩ = some (.bool x.u2) ∧ w.cell? ⟨b, 5, none⟩ = some (.bool x.u3) ∧ w.cell? ⟨b, 6, none⟩ = some (.bool x.u4) :=
  ⟨blk_cell h 0, blk_cell h 1, blk_cell h 2, blk_cell h 3, blk_cell h 4, blk_cell h 5, blk_cell h 6⟩
theorem XB.grown {w w4 : World} {x : NN} {A : Option Addr} {n c b : Nat} {xs : List NN} (h : XB w b x) (hR : Kd.R kN 62 w (b + 1) (fun _ => True) (.slice A n c) xs) (hg : w.grownBy w4 (Value.slice A n c).ownBlock) : XB w4 b x :=
  blk_grown h hg (fun e => by have := Kd.R_base hR b e.symm; omega)
theorem below_gr {w0 w w4 : World} {A : Option Addr} {n c : Nat} {xs : List NN} (h : Below w0.heap.size w0 w) (hR : Kd.R kN 62 w (w0.heap.size + 1) (fun _ => True) (.slice A n c) xs) (hg : w.grownBy w4 (Value.slice A n c).ownBlock) : Below w0.heap.size w0 w4 :=
  pw_below_grown h _ h.size hg (fun k e => by have := Kd.R_base hR k e; omega)

set_option maxHeartbeats 32000000 in
set_option maxRecDepth 100000 in
/-- What is noted. -/
theorem rnote_yes (A : Option Addr) (c : Nat) (l : List NN) (page frame : Int) (B : Option Addr) (cb : Nat) (us : List Int) (w : World) (hC : Kd.C kN w A l.length l) (hl : l.length ≤ 100000) (hpos : ∀ y ∈ l, 0 ≤ y.page)
    (hU : Kd.C (Kd.int .i64) w B us.length us) (hul : us.length ≤ 100000) (hall : us.all goodU = true) (h1 : 0 ≤ page) (h2 : page < 68719476736) (h3 : 0 ≤ frame) (h4 : frame < 96) :
    Calls Try.prog 16 #[.slice A l.length c, .int .i64 page, .int .i64 frame, .slice B us.length cb] w fun e w' => ∃ A' c', e = .returned (.tuple #[.slice A' (noteR (newN page frame us) l).length c', .bool true]) ∧ Kd.C kN w' A' (noteR (newN page frame us) l).length (noteR (newN page frame us) l) ∧ (∀ ad, A' = some ad → w.heap.size ≤ ad.block) ∧ Below w.heap.size w w' := by
  have hpx := useN_page us ⟨page, frame, false, false, false, false, false⟩
  unfold newN
  generalize hx0 : useN us ⟨page, frame, false, false, false, false, false⟩ = x at hpx ⊢
  obtain ⟨hxp, hxf⟩ := hpx
  have hx := Aside0.mk hx0
  dsimp only at hxp hxf
  clear hx0
  replace hxp := Aside0.mk hxp
  replace hxf := Aside0.mk hxf
  replace hU := Aside0.mk hU
  replace hul := Aside0.mk hul
  replace hC := Aside0.mk hC
  replace hl := Aside0.mk hl
  replace hpos := Aside0.mk hpos
  have f1 : decide (page < 0) = false := decide_eq_false (by omega)
  have f2 : decide (page ≥ 68719476736) = false := decide_eq_false (by omega)
  have f3 : decide (frame < 0) = false := decide_eq_false (by omega)
  have f4 : decide (frame > 95) = false := decide_eq_false (by omega)
  have ep : Int.tmod page 16 = page % 16 := Int.tmod_eq_emod_of_nonneg h1
  replace ep := Aside0.mk ep
  replace h1 := Aside0.mk h1
  clear h2 h3 h4
  go_enter Try.func16, Try.ntmps16
  go_wp2
  go_loopg [11] us.length (fun kq v11 w' => ∃ (i : Nat) (y : NN), v11 = .int .i64 (i : Int) ∧ Aside0 (i + kq = us.length ∧ (us.drop i).all goodU = true ∧ useN (us.drop i) y = x) ∧ Aside0 (XB w' w.heap.size y) ∧ Aside0 (Below w.heap.size w w'))
  case atStart => exact ⟨0, ⟨page, frame, false, false, false, false, false⟩, rfl, ⟨by omega, by simpa using hall, by simpa using hx.out⟩, ⟨blk_new w _⟩, ⟨below_alloc (Below.refl _ w) _⟩⟩
  case round =>
    obtain ⟨i, y, rfl, HK, HX, HB⟩ := hrel
    cases gk with
    | zero =>
      obtain rfl : i = us.length := by have := HK.out; omega
      have d3 : decide (((us.length : Nat) : Int) < ((us.length : Nat) : Int)) = false := decide_eq_false (by omega)
      have ey : y = x := by
        have h := HK.out.2.2
        rw [List.drop_eq_nil_of_le (Nat.le_refl _)] at h
        exact h
      subst ey
      clear HK
      go_wp2
      go_loopg [12, 13] l.length (fun kq v12 v13 w' => ∃ (i2 : Nat), v13 = .int .i64 (i2 : Int) ∧ Aside0 (i2 + kq = l.length) ∧ Kd.R kN 62 w' (w.heap.size + 1) (fun _ => True) v12 (stayR page (l.take i2)) ∧ Aside0 (XB w' w.heap.size (joinR y (l.take i2))) ∧ Aside0 (Below w.heap.size w w'))
      case atStart => exact ⟨0, rfl, ⟨by omega⟩, Kd.R_nil _ _ _ _ _, HX, HB⟩
      case round =>
        clear HX HB
        obtain ⟨i2, rfl, HK, HR, HX, HB⟩ := hrel
        obtain ⟨A8, c8, e8⟩ := Kd.R_slice HR
        subst e8
        replace HR := Aside0.mk HR
        have hsl := stayR_length page l i2
        have hal : ((stayR page (l.take i2)).length + 1) * 24 ≤ 140737488355328 := by have := hl.out; omega
        replace hal := Aside0.mk hal
        have hsz : Aside0 (w.heap.size + 1 ≤ wr.heap.size) := ⟨blk_lt HX.out⟩
        clear hsl
        cases gk with
        | zero =>
          obtain rfl : i2 = l.length := by have := HK.out; omega
          clear d3
          have d3 : decide (((l.length : Nat) : Int) < ((l.length : Nat) : Int)) = false := decide_eq_false (by omega)
          rw [List.take_length] at HR HX hal ⊢
          have hj : noteR y l = stayR page l ++ [joinR y l] := by unfold noteR; rw [hxp.out]
          generalize hz : joinR y l = z at HX hj
          obtain ⟨k0, k1, k2, k3, k4, k5, k6⟩ := HX.out.lits
          replace hj := Aside0.mk hj
          clear hz
          go_wp2_with ((with_reducible refine gate_builtin (b := .append) (xs := #[.tmp 123, .tmp 125]) rfl ?_); at_builtin; refine Kd.R_append kN (w0 := wr) (w.heap.size + 1) rfl (.tmp 123) (.tmp 125) 40 62 (.agg #[.int .i64 0, .int .i64 0, .bool false, .bool false, .bool false, .bool false, .bool false]) 24 rfl Try.underlying40 info62 rfl (by decide) (by omega) (.slice A8 (stayR page l).length c8) (stayR page l) (z) (cN (z)) (fun _ => True) (fun _ => False) rfl rfl ?aP (fun _ hk => hk.elim) ?aF ?aO ?aB ?aS ?aL ?_; (case aP => exact kN_mkM _ _ _ _); (case aB => exact Below.refl _ _); (case aF => exact (fun _ _ => trivial)); (case aO => exact HR.out); (case aS => exact hsz.out); (case aL => exact hal.out); intro v4 w4 ho4 hb4 hg4 hat4; obtain ⟨A4, c4, e4⟩ := Kd.R_slice ho4; rw [List.length_append, List.length_singleton] at e4; subst e4; clear hat4 hb4; replace hg4 := Aside0.mk hg4; replace ho4 := Aside0.mk ho4)
          go_returns
          rw [hj.out]
          have hCR := (Kd.R_reads' ho4.out)
          refine ⟨A4, c4, by rw [List.length_append, List.length_singleton]; rfl, ?_, ?_, below_gr HB.out HR.out hg4.out⟩
          · exact hCR.2.2
          · intro ad ha
            subst ha
            have := Kd.R_base ho4.out ad.block rfl
            omega
        | succ k3 =>
          have hi : i2 < l.length := by have := HK.out; omega
          clear d3
          have d3 : decide ((i2 : Int) < ((l.length : Nat) : Int)) = true := decide_eq_true (by omega)
          have d4 : decide (0 ≤ (i2 : Int)) = true := decide_eq_true (by omega)
          have d6 : decide (i2 < l.length) = true := decide_eq_true hi
          have hi9 : i2 < l.length := hi
          have ws := Aside0.mk (w64s i2 (by have := hl.out; omega))
          obtain ⟨ad, eA, c0, c1, c2, c3, c4, c5, c6⟩ := at_N7 (Kd.C_below hC.out HB.out) i2 hi
          have hj := joinR_snoc y l i2 hi
          have hs := stayR_snoc page l i2 hi
          have hp := hpos.out _ (List.getElem_mem hi)
          generalize hz : l[i2] = z at c0 c1 c2 c3 c4 c5 c6 hj hs hp
          replace hz : Aside0 (∀ h : i2 < l.length, l[i2] = z) := ⟨fun _ => hz⟩
          subst eA
          have et : Int.tmod z.page 16 = z.page % 16 := Int.tmod_eq_emod_of_nonneg hp
          have ep := ep.out
          rw [hxp.out, hxf.out] at hj
          replace hi := Aside0.mk hi
          by_cases q1 : z.page % 16 = page % 16
          · rw [if_neg (by simpa using q1)] at hj hs
            have g1 : (z.page % 16 == page % 16) = true := beq_iff_eq.mpr q1
            have g2 : (z.page % 16 != page % 16) = false := by unfold bne; rw [g1]; rfl
            by_cases q2 : z.page = page
            · have g3 : (z.page == page) = true := beq_iff_eq.mpr q2
              by_cases q3 : z.frame = frame
              · have g4 : (z.frame == frame) = true := beq_iff_eq.mpr q3
                rw [if_pos ⟨q2, q3⟩] at hj
                generalize joinR y (l.take i2) = x8 at HX hj
                replace hj := Aside0.mk hj
                replace hs := Aside0.mk hs
                replace hp := Aside0.mk hp
                replace q1 := Aside0.mk q1
                replace q2 := Aside0.mk q2
                replace q3 := Aside0.mk q3
                go_wp2
                go_loopg [14] 5 (fun kq v14 w' => ∃ (u : Nat), v14 = .int .i64 (u : Int) ∧ Aside0 (u + kq = 5) ∧ Aside0 (XB w' w.heap.size (orK x8 z u)) ∧ Aside0 (Kd.R kN 62 w' (w.heap.size + 1) (fun _ => True) (.slice A8 (stayR page (l.take i2)).length c8) (stayR page (l.take i2))) ∧ Aside0 (Below w.heap.size w w'))
                case atStart => exact ⟨0, rfl, ⟨by omega⟩, by rw [orK_zero]; exact HX, HR, HB⟩
                case round =>
                  clear HX HR HB hsz c0 c1 c2 c3 c4 c5 c6
                  obtain ⟨u, rfl, HK2, HX, HR, HB⟩ := hrel
                  cases gk with
                  | zero =>
                    obtain rfl : u = 5 := by have := HK2.out; omega
                    rw [orK_five] at HX
                    have HX2 : Aside0 (XB wr w.heap.size (joinR y (l.take (i2 + 1)))) := ⟨by rw [hj.out]; exact HX.out⟩
                    have HR2 : Aside0 (Kd.R kN 62 wr (w.heap.size + 1) (fun _ => True) (.slice A8 (stayR page (l.take i2)).length c8) (stayR page (l.take (i2 + 1)))) := ⟨by rw [hs.out]; exact HR.out⟩
                    go_wp2
                    go_roundg k3
                    case measure => omega
                    case rel => exact ⟨i2 + 1, by rw [ws.out], ⟨by have := HK.out; omega⟩, HR2.out, HX2, HB⟩
                  | succ k5 =>
                    have hu : u < 5 := by have := HK2.out; omega
                    have i5 : (u : Int) < 5 := by omega
                    have i7 : (0 : Int) ≤ (u : Int) := by omega
                    have d5 : decide ((u : Int) < 5) = true := decide_eq_true (by omega)
                    have ws2 := Aside0.mk (w64s u (by omega))
                    obtain ⟨ad2, eA2, _, _, cu⟩ := at_N (Kd.C_below hC.out HB.out) i2 hi.out
                    obtain rfl := Option.some.inj eA2
                    replace cu := cu u hu
                    rw [hz.out hi.out] at cu
                    have cx := HX.out.use u hu
                    rw [orK_use _ _ _ hu] at cx
                    have fz := blk_frozen HX.out (2 + u)
                    have hset : ∀ v, (x8.use u || z.use u) = v → Aside0 (XB (wr.setCell ⟨w.heap.size, 2 + u, none⟩ (.bool v)) w.heap.size (orK x8 z (u + 1))) ∧ Aside0 (Kd.R kN 62 (wr.setCell ⟨w.heap.size, 2 + u, none⟩ (.bool v)) (w.heap.size + 1) (fun _ => True) (.slice A8 (stayR page (l.take i2)).length c8) (stayR page (l.take i2))) ∧ Aside0 (Below w.heap.size w (wr.setCell ⟨w.heap.size, 2 + u, none⟩ (.bool v))) := by
                      intro v hv
                      refine ⟨⟨?_⟩, ⟨?_⟩, ⟨HB.out.setCell (Nat.le_refl _) _⟩⟩
                      · rw [← orK_set _ _ _ hu, hv]
                        exact HX.out.put u hu v
                      · exact Kd.R_mono (Kd.R_far (Kd.R_bound HR.out) (fun k hk => by have := hk.2.1; show k ≠ w.heap.size; omega) _) (fun _ _ => trivial)
                    generalize x8.use u = b8 at cx hset
                    generalize z.use u = bz at cu hset
                    replace hu := Aside0.mk hu
                    cases b8 with
                    | true =>
                      have g := hset true (by simp)
                      clear hset
                      go_wp2
                      go_roundg k5
                      case measure => omega
                      case rel => exact ⟨u + 1, by first | rw [ws2.out] | rfl, ⟨by have := HK2.out; omega⟩, g.1, g.2.1, g.2.2⟩
                    | false =>
                      have g := hset bz (by simp)
                      clear hset
                      go_wp2
                      go_roundg k5
                      case measure => omega
                      case rel => exact ⟨u + 1, by first | rw [ws2.out] | rfl, ⟨by have := HK2.out; omega⟩, g.1, g.2.1, g.2.2⟩
              · have g4 : (z.frame == frame) = false := beq_eq_false_iff_ne.mpr q3
                rw [if_neg (fun h => q3 h.2)] at hj
                rw [← hj] at HX
                rw [← hs] at HR
                replace hs := Aside0.mk (congrArg List.length hs)
                replace hj := Aside0.mk hj
                replace hp := Aside0.mk hp
                replace q1 := Aside0.mk q1
                replace q2 := Aside0.mk q2
                replace q3 := Aside0.mk q3
                go_wp2
                go_roundg k3
                case measure => omega
                case rel => exact ⟨i2 + 1, by rw [ws.out], ⟨by have := HK.out; omega⟩, by first | exact HR.out | (rw [← hs.out]; exact HR.out), HX, HB⟩
            · have g3 : (z.page == page) = false := beq_eq_false_iff_ne.mpr q2
              rw [if_neg (fun h => q2 h.1)] at hj
              rw [← hj] at HX
              rw [← hs] at HR
              replace hs := Aside0.mk (congrArg List.length hs)
              replace hj := Aside0.mk hj
              replace hp := Aside0.mk hp
              replace q1 := Aside0.mk q1
              replace q2 := Aside0.mk q2
              go_wp2
              go_roundg k3
              case measure => omega
              case rel => exact ⟨i2 + 1, by rw [ws.out], ⟨by have := HK.out; omega⟩, by first | exact HR.out | (rw [← hs.out]; exact HR.out), HX, HB⟩
          · rw [if_pos (by simpa using q1)] at hj hs
            have g1 : (z.page % 16 == page % 16) = false := beq_eq_false_iff_ne.mpr q1
            have g2 : (z.page % 16 != page % 16) = true := by unfold bne; rw [g1]; rfl
            replace hj := Aside0.mk hj
            replace hs := Aside0.mk hs
            replace hp := Aside0.mk hp
            replace q1 := Aside0.mk q1
            go_wp2_with ((with_reducible refine gate_builtin (b := .append) (xs := #[.tmp 80, .tmp 85]) rfl ?_); at_builtin; refine Kd.R_append kN (w0 := wr) (w.heap.size + 1) rfl (.tmp 80) (.tmp 85) 40 62 (.agg #[.int .i64 0, .int .i64 0, .bool false, .bool false, .bool false, .bool false, .bool false]) 24 rfl Try.underlying40 info62 rfl (by decide) (by omega) (.slice A8 (stayR page (l.take i2)).length c8) (stayR page (l.take i2)) (z) (cN (z)) (fun _ => True) (fun _ => False) rfl rfl ?aP (fun _ hk => hk.elim) ?aF ?aO ?aB ?aS ?aL ?_; (case aP => exact kN_mkM _ _ _ _); (case aB => exact Below.refl _ _); (case aF => exact (fun _ _ => trivial)); (case aO => exact HR.out); (case aS => exact hsz.out); (case aL => exact hal.out); intro v4 w4 ho4 hb4 hg4 hat4; obtain ⟨A4, c4, e4⟩ := Kd.R_slice ho4; rw [List.length_append, List.length_singleton] at e4; subst e4; clear hat4 hb4; replace hg4 := Aside0.mk hg4; replace ho4 := Aside0.mk ho4)
            have hX4 : Aside0 (XB w4 w.heap.size (joinR y (l.take (i2 + 1)))) := ⟨by rw [hj.out]; exact HX.out.grown HR.out hg4.out⟩
            have hB4 : Aside0 (Below w.heap.size w w4) := ⟨below_gr HB.out HR.out hg4.out⟩
            go_roundg k3
            case measure => omega
            case rel => exact ⟨i2 + 1, by rw [ws.out], ⟨by have := HK.out; omega⟩, by rw [hs.out]; exact ho4.out, hX4, hB4⟩
    | succ k1 =>
      have hi : i < us.length := by have := HK.out; omega
      have d3 : decide ((i : Int) < ((us.length : Nat) : Int)) = true := decide_eq_true (by omega)
      have d4 : decide (0 ≤ (i : Int)) = true := decide_eq_true (by omega)
      have ws := Aside0.mk (w64s i (by have := hul.out; omega))
      obtain ⟨bd, eB, hc⟩ := elemI (Kd.C_below hU.out HB.out) i hi
      have hd := HK.out.2.1
      have hx2 := HK.out.2.2
      rw [useN_drop us y i hi] at hx2
      rw [List.drop_eq_getElem_cons hi, List.all_cons] at hd
      generalize us[i] = u at hc hd hx2
      subst eB
      have hg : goodU u = true := by
        rw [Bool.and_eq_true] at hd
        exact hd.1
      rw [hg, Bool.true_and] at hd
      replace hd := Aside0.mk hd
      have go1 : ∀ k : Nat, k < 5 → Aside0 (XB (wr.setCell ⟨w.heap.size, 2 + k, none⟩ (.bool true)) w.heap.size (y.setU k true)) ∧ Aside0 (Below w.heap.size w (wr.setCell ⟨w.heap.size, 2 + k, none⟩ (.bool true))) := fun k hk => ⟨⟨HX.out.put k hk true⟩, ⟨HB.out.setCell (Nat.le_refl _) _⟩⟩
      rcases (goodU_iff u).1 hg with rfl | rfl | rfl
      · have fz := blk_frozen HX.out 3
        have cx : wr.cell? ⟨w.heap.size, 3, none⟩ = some (.bool (y.use 1)) := HX.out.use 1 (by omega)
        have g := go1 1 (by omega)
        replace hx2 := Aside0.mk hx2
        clear go1 hg
        go_wp2
        go_roundg k1
        case measure => omega
        case rel => exact ⟨i + 1, y.setU 1 true, by rw [ws.out], ⟨by have := HK.out; omega, hd.out, hx2.out⟩, g.1, g.2⟩
      · have fz := blk_frozen HX.out 4
        have cx : wr.cell? ⟨w.heap.size, 4, none⟩ = some (.bool (y.use 2)) := HX.out.use 2 (by omega)
        have g := go1 2 (by omega)
        replace hx2 := Aside0.mk hx2
        clear go1 hg
        go_wp2
        go_roundg k1
        case measure => omega
        case rel => exact ⟨i + 1, y.setU 2 true, by rw [ws.out], ⟨by have := HK.out; omega, hd.out, hx2.out⟩, g.1, g.2⟩
      · have fz := blk_frozen HX.out 6
        have cx : wr.cell? ⟨w.heap.size, 6, none⟩ = some (.bool (y.use 4)) := HX.out.use 4 (by omega)
        have g := go1 4 (by omega)
        replace hx2 := Aside0.mk hx2
        clear go1 hg
        go_wp2
        go_roundg k1
        case measure => omega
        case rel => exact ⟨i + 1, y.setU 4 true, by rw [ws.out], ⟨by have := HK.out; omega, hd.out, hx2.out⟩, g.1, g.2⟩
end Go.Proofs.Ytfmkjdbhijeejaa.Hand
