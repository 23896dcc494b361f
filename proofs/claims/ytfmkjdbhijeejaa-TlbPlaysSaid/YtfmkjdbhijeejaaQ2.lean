/- The document's Flush, walked by hand. -/
import Derived.Test.YtfmkjdbhijeejaaQ1
namespace Go.Proofs.Ytfmkjdbhijeejaa.Hand
set_option linter.unusedVariables false
set_option linter.unusedSimpArgs false
open Go.RowKit Go.Proofs.Ytfmkjdbhijeejaa.R Go.Proofs.YtfmkjdbhijeejaaW.PrintWords Go.Proofs.YtfmkjdbhijeejaaW.PrintMore

theorem info62 : (Try.prog.info? 62).map (fun i => (i.zero, i.size, i.bytes)) = some (some (.agg #[.int .i64 0, .int .i64 0, .bool false, .bool false, .bool false, .bool false, .bool false]), 7, 24) := by kernel_rfl
/-- An entry's cells, one by one. -/
theorem at_N7 {w : World} {A : Option Addr} {l : List NN} (h : Kd.C kN w A l.length l) (i : Nat) (hi : i < l.length) :
    ∃ ad, A = some ad ∧ w.cell? (ad.add (i * 7)) = some (.int .i64 l[i].page) ∧ w.cell? ⟨(ad.add (i * 7)).block, (ad.add (i * 7)).off + 1, none⟩ = some (.int .i64 l[i].frame) ∧
      w.cell? ⟨(ad.add (i * 7)).block, (ad.add (i * 7)).off + 2, none⟩ = some (.bool l[i].u0) ∧ w.cell? ⟨(ad.add (i * 7)).block, (ad.add (i * 7)).off + 3, none⟩ = some (.bool l[i].u1) ∧
      w.cell? ⟨(ad.add (i * 7)).block, (ad.add (i * 7)).off + 4, none⟩ = some (.bool l[i].u2) ∧ w.cell? ⟨(ad.add (i * 7)).block, (ad.add (i * 7)).off + 5, none⟩ = some (.bool l[i].u3) ∧
      w.cell? ⟨(ad.add (i * 7)).block, (ad.add (i * 7)).off + 6, none⟩ = some (.bool l[i].u4) := by
  obtain ⟨ad, e, h0, h1, h2⟩ := at_N h i hi
  exact ⟨ad, e, h0, h1, h2 0 (by omega), h2 1 (by omega), h2 2 (by omega), h2 3 (by omega), h2 4 (by omega)⟩

def flushRL : List NN → List Int → List NN
  | l, [] => l
  | l, p :: r => flushRL (flushR p l) r
def flushRN : List NN → List Int → Nat
  | _, [] => 0
  | l, p :: r => l.countP (fun y => y.page == p) + flushRN (flushR p l) r
theorem flushR_snoc (p : Int) (l : List NN) (i : Nat) (hi : i < l.length) : flushR p (l.take (i + 1)) = if l[i].page = p then flushR p (l.take i) else flushR p (l.take i) ++ [l[i]] := by
  unfold flushR
  rw [List.take_succ_eq_append_getElem hi, List.filter_append]
  by_cases h : l[i].page = p <;> simp [h]
theorem countP_snoc (p : Int) (l : List NN) (i : Nat) (hi : i < l.length) : (l.take (i + 1)).countP (fun y => y.page == p) = (l.take i).countP (fun y => y.page == p) + if l[i].page = p then 1 else 0 := by
  rw [List.take_succ_eq_append_getElem hi, List.countP_append]
  by_cases h : l[i].page = p <;> simp [h]
theorem flush_parts (p : Int) (l : List NN) : l.countP (fun y => y.page == p) + (flushR p l).length = l.length := by
  unfold flushR
  induction l with
  | nil => rfl
  | cons y l ih =>
    rw [List.countP_cons, List.filter_cons]
    by_cases h : y.page = p
    · have h1 : (y.page == p) = true := by simpa using h
      have h2 : (y.page != p) = false := by simpa using h
      rw [h1, h2]
      simp only [if_pos, Bool.false_eq_true, if_false, List.length_cons]
      omega
    · have h1 : (y.page == p) = false := by simpa using h
      have h2 : (y.page != p) = true := by simpa using h
      rw [h1, h2]
      simp only [if_pos, Bool.false_eq_true, if_false, List.length_cons]
      omega

theorem cell_far' {w w' : World} {p : Addr} {v : Value} (h : w.cell? p = some v) (hb : Below w.heap.size w w') : w'.cell? p = some v := pw_cell_below hb h
set_option maxHeartbeats 8000000 in
set_option maxRecDepth 100000 in
theorem rflush_calls (A : Option Addr) (c : Nat) (l : List NN) (B : Option Addr) (cb : Nat) (ps : List Int) (w : World) (hC : Kd.C kN w A l.length l) (hl : l.length ≤ 100000) (hP : Kd.C (Kd.int .i64) w B ps.length ps) (hp : ps.length ≤ 100000) :
    Calls Try.prog 19 #[.slice A l.length c, .slice B ps.length cb] w fun e w' => ∃ A' c', e = .returned (.tuple #[.slice A' (flushRL l ps).length c', .int .i64 ((flushRN l ps : Nat) : Int)]) ∧ Kd.C kN w' A' (flushRL l ps).length (flushRL l ps) ∧ (A' = A ∨ ∀ ad, A' = some ad → w.heap.size ≤ ad.block) ∧ Below w.heap.size w w' := by
  replace hC := Aside0.mk hC
  replace hP := Aside0.mk hP
  replace hl := Aside0.mk hl
  replace hp := Aside0.mk hp
  go_enter Try.func19, Try.ntmps19
  go_wp2
  go_loopg [0, 6, 7] ps.length (fun kq v0 v6 v7 w' => ∃ (A' : Option Addr) (c' : Nat) (cur : List NN) (n i : Nat), v0 = .slice A' cur.length c' ∧ v6 = .int .i64 (n : Int) ∧ v7 = .int .i64 (i : Int) ∧ Aside0 (i + kq = ps.length ∧ n + cur.length = l.length) ∧ Aside0 (flushRL l ps = flushRL cur (ps.drop i) ∧ flushRN l ps = n + flushRN cur (ps.drop i)) ∧ Aside0 (Kd.C kN w' A' cur.length cur) ∧ Aside0 (A' = A ∨ ∀ ad, A' = some ad → w.heap.size ≤ ad.block) ∧ Aside0 (Below w.heap.size w w'))
  case atStart => exact ⟨A, c, l, 0, 0, rfl, rfl, rfl, ⟨by omega, by omega⟩, ⟨by simp, by simp⟩, hC, ⟨.inl rfl⟩, ⟨Below.refl _ w⟩⟩
  case round =>
    obtain ⟨A', c', cur, n, i, rfl, rfl, rfl, HK, HR, HC, HA, HB⟩ := hrel
    cases gk with
    | zero =>
      have e : i = ps.length := by have := HK.out; omega
      subst e
      have d3 : decide (((ps.length : Nat) : Int) < ((ps.length : Nat) : Int)) = false := decide_eq_false (by omega)
      have r := HR.out
      rw [List.drop_eq_nil_of_le (Nat.le_refl _)] at r
      simp only [flushRL, flushRN, Nat.add_zero] at r
      replace r := Aside0.mk r
      go_wp2
      go_returns
      rw [r.out.1, r.out.2]
      exact ⟨A', c', rfl, HC.out, HA.out, HB.out⟩
    | succ k1 =>
      have hi : i < ps.length := by have := HK.out; omega
      have d3 : decide ((i : Int) < ((ps.length : Nat) : Int)) = true := decide_eq_true (by omega)
      have d4 : decide (0 ≤ (i : Int)) = true := decide_eq_true (by omega)
      obtain ⟨p, ep⟩ : ∃ p, ps[i] = p := ⟨_, rfl⟩
      have r := HR.out
      rw [List.drop_eq_getElem_cons hi, ep] at r
      simp only [flushRL, flushRN] at r
      replace r := Aside0.mk r
      have hP1 := Kd.C_below hP.out HB.out
      obtain ⟨bd, eB, hpc⟩ : ∃ bd, B = some bd ∧ wr.cell? (bd.add i) = some (.int .i64 p) := by
        obtain ⟨ad, cs, eA, hc1, hc2, hc3⟩ := hP1.get_ 0 (i : Int) (by omega) (by omega)
        refine ⟨ad, eA, ?_⟩
        have hk : cs = [.int .i64 p] := by
          have : ps.getD (i : Int).toNat 0 = p := by simp [hi, ep]
          rw [this] at hc2
          exact hc2
        subst hk
        have := hc3 0 _ rfl
        simpa [Kd.int, Kd.scalar] using this
      replace hpc := Aside0.mk hpc
      clear hP1 ep
      subst eB
      have ws := Aside0.mk (w64s i (by have := hp.out; omega))
      obtain ⟨w1, rfl⟩ : ∃ w1, w1 = wr := ⟨wr, rfl⟩
      go_wp2
      go_loopg [6, 8, 9] cur.length (fun kq v6 v8 v9 w' => ∃ (n2 k2 : Nat), v6 = .int .i64 (n2 : Int) ∧ v9 = .int .i64 (k2 : Int) ∧ Aside0 (k2 + kq = cur.length ∧ n2 = n + (cur.take k2).countP (fun y => y.page == p)) ∧ Kd.R kN 62 w' w1.heap.size (fun _ => True) v8 (flushR p (cur.take k2)) ∧ Aside0 (Below w1.heap.size w1 w'))
      case atStart => exact ⟨n, 0, rfl, rfl, ⟨by omega, by simp⟩, Kd.R_nil _ _ _ _ _, ⟨Below.refl _ _⟩⟩
      case round =>
        obtain ⟨n2, k2, rfl, rfl, HK2, HR2, HB2⟩ := hrel
        obtain ⟨A8, c8, e8⟩ := Kd.R_slice HR2
        subst e8
        replace HR2 := Aside0.mk HR2
        cases gk with
        | zero =>
          have e : k2 = cur.length := by have := HK2.out; omega
          subst e
          have d5 : decide (((cur.length : Nat) : Int) < ((cur.length : Nat) : Int)) = false := decide_eq_false (by omega)
          have hcn := HK2.out.2
          rw [List.take_length] at hcn
          have hR3 := HR2.out
          rw [List.take_length] at hR3
          have hparts := flush_parts p cur
          obtain ⟨A9, c9, e9, l9, h9⟩ := Kd.R_reads hR3
          have hfr : ∀ ad, A8 = some ad → w.heap.size ≤ ad.block := by
            intro ad ha
            subst ha
            have h1 := HB.out.size
            have h2 := Kd.R_base hR3 ad.block (by rfl)
            omega
          have hC3 := (Kd.R_reads' hR3).2.2
          replace hC3 := Aside0.mk hC3
          replace hfr := Aside0.mk hfr
          replace hcn := Aside0.mk hcn
          replace hparts := Aside0.mk hparts
          clear hR3
          rw [List.take_length]
          go_wp2
          go_roundg k1
          case measure => omega
          case rel => exact ⟨A8, c8, flushR p cur, n2, i + 1, rfl, rfl, by rw [ws.out], ⟨by have := HK.out; omega, by have := HK.out; have := hcn.out; have := hparts.out; omega⟩, ⟨r.out.1, by rw [r.out.2, hcn.out]; omega⟩, hC3, ⟨.inr hfr.out⟩, ⟨below_step HB.out HB2.out⟩⟩
        | succ k3 =>
          have hk : k2 < cur.length := by have := HK2.out; omega
          have d5 : decide ((k2 : Int) < ((cur.length : Nat) : Int)) = true := decide_eq_true (by omega)
          have d6 : decide (0 ≤ (k2 : Int)) = true := decide_eq_true (by omega)
          have HC2 := Kd.C_below HC.out HB2.out
          obtain ⟨ad, eA, c0, c1, c2, c3, c4, c5, c6⟩ := at_N7 HC2 k2 hk
          have hs := flushR_snoc p cur k2 hk
          have hn := countP_snoc p cur k2 hk
          generalize hy : cur[k2] = y at c0 c1 c2 c3 c4 c5 c6 hs hn
          have hpc2 := cell_far' hpc.out HB2.out
          subst eA
          replace hs := Aside0.mk hs
          replace hn := Aside0.mk hn
          replace hk := Aside0.mk hk
          replace HC2 := Aside0.mk HC2
          have ws2 := Aside0.mk (w64s k2 (by have := hl.out; have := HK.out; have := HK2.out; omega))
          have ws3 := Aside0.mk (w64s n2 (by have := hl.out; have := HK.out; have := HK2.out; have := flush_parts p (cur.take k2); rw [List.length_take] at this; omega))
          have hal : (( flushR p (cur.take k2)).length + 1) * 24 ≤ 140737488355328 := by
            have := hl.out; have := HK.out; have := HK2.out; have := flush_parts p (cur.take k2); rw [List.length_take] at this; omega
          replace hal := Aside0.mk hal
          clear hy
          by_cases ey : y.page = p
          · have b1 : (y.page == p) = true := beq_iff_eq.mpr ey
            replace ey := Aside0.mk ey
            go_wp2
            go_quiet (fail)
            go_wp2
            go_roundg k3
            case measure => omega
            case rel => exact ⟨n2 + 1, k2 + 1, by rw [ws3.out], by rw [ws2.out], ⟨by have := HK2.out; omega, by have := hn.out; rw [if_pos ey.out] at this; have := HK2.out; omega⟩, by rw [hs.out, if_pos ey.out]; exact HR2.out, ⟨pw_below_drewN HB2.out _⟩⟩
          · have b1 : (y.page == p) = false := beq_eq_false_iff_ne.mpr ey
            replace ey := Aside0.mk ey
            go_wp2
            go_quiet (fail)
            go_wp2_with ((with_reducible refine gate_builtin (b := .append) (xs := #[.tmp 34, .tmp 39]) rfl ?_); at_builtin; refine Kd.R_append kN (w0 := w1) w1.heap.size rfl (.tmp 34) (.tmp 39) 40 62 (.agg #[.int .i64 0, .int .i64 0, .bool false, .bool false, .bool false, .bool false, .bool false]) 24 rfl Try.underlying40 info62 rfl (by decide) (by omega) (.slice A8 (flushR p (cur.take k2)).length c8) (flushR p (cur.take k2)) y (cN y) (fun _ => True) (fun _ => False) rfl rfl ?aP (fun _ hk => hk.elim) ?aF ?aO ?aB ?aS ?aL ?_; (case aP => exact kN_mkM _ _ _ y); (case aB => exact pw_below_drewN HB2.out _); (case aF => exact (fun _ _ => trivial)); (case aO => exact HR2.out); (case aS => exact HB2.out.size); (case aL => exact hal.out); intro v4 w4 ho4 hb4 hg4 hat4; obtain ⟨A4, c4, e4⟩ := Kd.R_slice ho4; rw [List.length_append, List.length_singleton] at e4; subst e4; clear hg4 hat4; replace ho4 := Aside0.mk ho4; replace hb4 := Aside0.mk hb4)
            go_roundg k3
            case measure => omega
            case rel => exact ⟨n2, k2 + 1, rfl, by rw [ws2.out], ⟨by have := HK2.out; omega, by have := hn.out; rw [if_neg ey.out] at this; have := HK2.out; omega⟩, by rw [hs.out, if_neg ey.out]; exact ho4.out, hb4⟩
end Go.Proofs.Ytfmkjdbhijeejaa.Hand
