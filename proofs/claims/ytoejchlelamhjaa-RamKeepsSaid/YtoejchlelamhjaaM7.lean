/- RamKeeps, walked. -/
import Derived.Test.YtoejchlelamhjaaM6
import Derived.Deep.QuietTactic
import Derived.BigQuiet
import Derived.Deep.OwnRows
namespace Go.Proofs.Ytoejchlelamhjaa.Hand
set_option linter.unusedVariables false
set_option linter.unusedSimpArgs false
open Go.RowKit Go.Proofs.Ytoejchlelamhjaa.R Go.Proofs.Ytoejchlelamhjaa.Byt Go.Proofs.YtoejchlelamhjaaW.PrintWords Go.Proofs.YtoejchlelamhjaaW.PrintLast Go.Proofs.YtoejchlelamhjaaW.PrintMore

theorem rd26 (l : List S26) (i : Nat) (h : i < l.length) : rd_T26 l (i : Int) = l[i] := by unfold rd_T26; simp [h]
theorem far_low {S : Nat → Prop} {base : Nat} {w1 w w' : World} (h : Below base w1 w) (f : Far S w w') (hb : base ≤ w.heap.size) (hS : ∀ k, S k → base ≤ k) : Below base w1 w' := h.trans (f.below hb hS)
def BoxD (d : S26) (A : Option Addr) (c : Nat) : Array Value := #[.int .i64 d.f0, .int .i64 d.f1, .int .i64 d.f2, .int .i64 d.f3, .int .u64 d.f4, .slice A d.f5.length c]
theorem k26_below {w w' : World} {A : Option Addr} {n : Nat} {xs : List S26} (h : Kd.C k26 w A n xs) (hb : Below w.heap.size w w') : Kd.C k26 w' A n xs := Kd.C_below h hb

theorem C_at {k : IntKind} {w : World} {A : Option Addr} {n : Nat} {xs : List Int} (h : (Kd.int k).C w A n xs) (i : Nat) (hi : i < xs.length) : ∃ ad, A = some ad ∧ w.cell? (ad.add i) = some (.int k xs[i]) := by
  have hR := Kd.reads_of_C (enc := Value.int k) (d := (0 : Int)) (h1 := fun _ => rfl) h
  have hn : n = xs.length := h.1.symm
  obtain ⟨ad, ha, hc⟩ := hR.2.2 (by omega)
  refine ⟨ad, ha, ?_⟩
  rw [hc i (by omega)]
  simp [hi]
theorem Was.put {w : World} {wb : Nat} {a : RA} {cs : Nat → List Int} {m N : Nat} (h : Was w wb a cs m N) : ∃ v, w.cell? ⟨wb, m, none⟩ = v ∧ w.frozen? ⟨wb, m, none⟩ = false ∧ (m < 8 → v.isSome = true) := by
  obtain ⟨vs, hl, hb, hr⟩ := h.of
  refine ⟨_, rfl, blk_frozen hb m, fun hm => ?_⟩
  rw [blk_cell hb m]
  simp
  omega
theorem lit_C' (w : World) (k : IntKind) (xs : List Int) (cs : Array Value) (e : TypeId) (fr : Nat × Nat) (hcs : cs = (xs.map (Value.int k)).toArray) (hl : xs.length < 1000000) : Kd.C (Kd.int k) (w.alloc (.cells cs e fr)) (some ⟨w.heap.size, 0, none⟩) xs.length xs := by
  subst hcs
  refine ⟨rfl, by omega, fun _ => ⟨_, rfl, fun j p hj => ⟨[.int k p], rfl, rfl, fun i u hu => ?_⟩⟩⟩
  have hi : i = 0 := by
    have := (List.getElem?_eq_some_iff.1 hu).1
    simp at this
    exact this
  subst hi
  simp at hu
  subst hu
  have hn : (w.alloc (.cells (xs.map (Value.int k)).toArray e fr)).heap[w.heap.size]? = some (.cells (xs.map (Value.int k)).toArray e fr) := blk_new w _
  have : (⟨w.heap.size, 0, none⟩ : Addr).add (j * 1 + 0) = ⟨w.heap.size, j, none⟩ := by
    by_cases h : j = 0 <;> simp [Addr.add, h]
  show World.cell? _ ((⟨w.heap.size, 0, none⟩ : Addr).add (j * 1 + 0)) = _
  rw [this]
  unfold World.cell?
  rw [hn]
  simp [hj]
theorem made_zeros (n : Nat) : madeCells #[Value.int .u8 0] n = ((List.replicate n (0 : Int)).map (Value.int .u8)).toArray := by
  unfold madeCells
  apply Array.ext'
  simp
  apply List.ext_getElem <;> simp
  intro i _
  simp [Nat.mod_one]
theorem make4096 : ∃ Zc : Array Value, Zc = ((List.replicate 4096 (0 : Int)).map (Value.int .u8)).toArray ∧ ∀ w, (Instr.makeSlice 24 (.int .i64 4096) (.int .i64 4096)).run Try.prog w = .ok (.slice (some ⟨w.heap.size, 0, none⟩) 4096 4096) (w.alloc (.cells Zc 5)) :=
  ⟨_, rfl, fun w => by rw [← made_zeros]; exact run_make_row' (P := Try.prog) 24 5 (.int .u8 0) 1 Try.underlying24 info5 rfl .i64 .i64 4096 (by decide) (by decide) w⟩
theorem bytes_same (b : List Int) : gunnyref01_Bytes.f b b = some true := by unfold gunnyref01_Bytes.f; simp
set_option maxHeartbeats 16000000 in
set_option maxRecDepth 100000 in
theorem keeps_law (W : World) (A : Option Addr) (c : Nat) (ls : List S26) (hC : Kd.C k26 W A ls.length ls) (hc : ls.length ≤ c) (hwf : ∀ x ∈ ls, DeedWf x) (d : S26) (dA : Option Addr) (dc : Nat) (hdC : Kd.C (Kd.int .u8) W dA d.f5.length d.f5) (hdc : d.f5.length ≤ dc) (hdwf : DeedWf d) :
    Calls Try.prog 3 #[.slice A ls.length c, .agg (BoxD d dA dc)] W fun e w' => e = .returned (.bool true) ∧ Below W.heap.size W w' := by
  obtain ⟨gr, hgr, hgr60⟩ := great_some ls
  have hb0 := blk_new W (.cells (BoxD d dA dc) 26 (0, 0))
  have hba := Aside0.mk (below_alloc (Below.refl _ W) (.cells (BoxD d dA dc) 26 (0, 0)))
  have hG := Aside0.mk (gunnylaw06_great.calls (ls.length + 1) A c ls gr _ (Kd.C_below hC hba.out) hc hgr)
  obtain ⟨k1, k2, k3, k4, k5⟩ := deed_cells (k := d.f0) hb0
  replace hb0 := Aside0.mk hb0
  replace hgr60 := Aside0.mk hgr60
  replace hC := Aside0.mk hC
  replace hwf := Aside0.mk hwf
  replace hdC := Aside0.mk hdC
  replace hdwf := Aside0.mk hdwf
  replace hc := Aside0.mk hc
  replace hdc := Aside0.mk hdc
  clear hgr
  unfold BoxD at *
  cases gr with
  | true =>
    go_enter Try.func3, Try.ntmps3
    go_wp2_with (first | (go_at_call 6; refine hG.out.mono ?_; rintro e w2 ⟨rfl, hb⟩; replace hb := Aside0.mk hb) | (go_at_call 7; refine (lives_calls _).mono ?_; rintro e w3 ⟨rfl, hb3⟩; replace hb3 := Aside0.mk hb3))
    go_returns
    exact ⟨rfl, below_step (below_step hba.out hb.out) hb3.out⟩
  | false =>
    by_cases hl : 5000 < d.f5.length
    · have d1 : decide ((d.f5.length : Int) > 5000) = true := decide_eq_true (by omega)
      have d2 : decide (5000 < (d.f5.length : Int)) = true := decide_eq_true (by omega)
      have d3 : decide (5000 < d.f5.length) = true := decide_eq_true hl
      go_enter Try.func3, Try.ntmps3
      go_wp2_with (first | (go_at_call 6; refine hG.out.mono ?_; rintro e w2 ⟨rfl, hb⟩; have k5 := (deed_cells (blk_below hb0.out hb)).2.2.2.2; replace hb := Aside0.mk hb) | (go_at_call 7; refine (lives_calls _).mono ?_; rintro e w3 ⟨rfl, hb3⟩; replace hb3 := Aside0.mk hb3))
      go_returns
      exact ⟨rfl, below_step (below_step hba.out hb.out) hb3.out⟩
    have d1 : decide ((d.f5.length : Int) > 5000) = false := decide_eq_false (by omega)
    have d2 : decide (5000 < (d.f5.length : Int)) = false := decide_eq_false (by omega)
    have d3 : decide (5000 < d.f5.length) = false := decide_eq_false hl
    have hl60 := Aside0.mk (hgr60.out rfl)
    have hl' := Aside0.mk (show d.f5.length ≤ 5000 by omega)
    clear hl hgr60
    go_enter Try.func3, Try.ntmps3
    go_upto_region 6 with (first | (go_at_call 6; refine hG.out.mono ?_; rintro e w2 ⟨rfl, hb⟩; have k5 := (deed_cells (blk_below hb0.out hb)).2.2.2.2; replace hb := Aside0.mk hb) | (go_at_call 8; refine (ram_new 8 (by omega) (by omega) _).mono ?_; rintro e w3 ⟨a, rfl, hs, hb3⟩; have hs3 := Aside0.mk hs; clear hs; replace hb3 := Aside0.mk hb3))
    clear hG k1 k2 k3 k4 k5
    obtain ⟨B0, hB0⟩ : ∃ B, B = w2.heap.size := ⟨_, rfl⟩
    have hRam0 : Ram w3 B0 a (List.replicate 8 0) (dn 8 0) 0 (List.replicate (4096 * 8) 0) := ⟨⟨0, by rw [hB0]; exact hs3.out⟩⟩
    have hGd0 : Gd (List.replicate 8 0) (dn 8 0) (List.replicate (4096 * 8) 0) 8 8 := RG.new 8 (by omega)
    have hbx2 := blk_below hb0.out hb.out
    have hW2 := below_step hba.out hb.out
    have hBW : W.heap.size ≤ B0 := by rw [hB0]; exact hW2.size
    have hbx : W.heap.size < B0 := by rw [hB0]; exact blk_lt hbx2
    rw [← hB0] at hb3
    replace hRam0 := Aside0.mk hRam0
    replace hGd0 := Aside0.mk hGd0
    replace hbx2 := Aside0.mk hbx2
    replace hW2 := Aside0.mk hW2
    replace hbx := Aside0.mk hbx
    replace hBW := Aside0.mk hBW
    replace hB0 := Aside0.mk hB0
    have hC2 := Aside0.mk (Kd.C_below hC.out hW2.out)
    have hdC2 := Aside0.mk (Kd.C_below hdC.out hW2.out)
    clear hs3 hb hba hb0
    obtain ⟨g, hg⟩ : ∃ g, g = a.g := ⟨_, rfl⟩
    rw [← hg]
    replace hg := Aside0.mk hg
    go_wp2
    go_loopg [7] ls.length (fun kq v7 w' => ∃ (i : Nat) (a : RA) (own F : List Int) (t : Int) (B : List Int), v7 = .int .i64 (i : Int) ∧ Aside0 (i + kq = ls.length) ∧ Aside0 (a.g = g) ∧ Aside0 (Ram w' B0 a own F t B) ∧ Aside0 (Gd own F B 8 8) ∧ Aside0 (Below B0 w2 w'))
    case atStart => exact ⟨0, a, _, _, _, _, rfl, ⟨by omega⟩, ⟨hg.out.symm⟩, hRam0, hGd0, hb3⟩
    case round =>
      obtain ⟨i, a, own, F, t, B, rfl, HK, HG, HR, HD, HB⟩ := hrel
      clear hRam0 hGd0 hb3 hg
      have hb2 : Below w2.heap.size w2 wr := by rw [← hB0.out]; exact HB.out
      cases gk with
      | zero =>
        obtain ⟨wb, hwb⟩ : ∃ wb, wb = wr.heap.size := ⟨_, rfl⟩
        have hwbR : ∀ k, Rown a k → k < wb := fun k hk => by rw [hwb]; exact (HR.out.own_lt k hk).2
        have e0 : decide ((i : Int) < (ls.length : Int)) = false := decide_eq_false (by have := HK.out; omega)
        have e0' : decide (i < ls.length) = false := decide_eq_false (by have := HK.out; omega)
        have hbg : a.g = g := HG.out
        subst hbg
        go_wp2
        have hWs0 : Aside0 (Was (wr.alloc (.cells (#[.slice none 0 0, .slice none 0 0, .slice none 0 0, .slice none 0 0, .slice none 0 0, .slice none 0 0, .slice none 0 0, .slice none 0 0] : Array Value) 36 (0, 0))) wb a (fun j => part own B (j : Int) 0 4096) 0 (wr.alloc (.cells (#[.slice none 0 0, .slice none 0 0, .slice none 0 0, .slice none 0 0, .slice none 0 0, .slice none 0 0, .slice none 0 0, .slice none 0 0] : Array Value) 36 (0, 0))).heap.size) := ⟨⟨(#[.slice none 0 0, .slice none 0 0, .slice none 0 0, .slice none 0 0, .slice none 0 0, .slice none 0 0, .slice none 0 0, .slice none 0 0] : Array Value).toList, rfl, by rw [hwb]; exact blk_new wr _, fun j hj => by omega⟩⟩
        have hR0 := Aside0.mk (HR.out.below (below_alloc (Below.refl _ wr) (.cells (#[.slice none 0 0, .slice none 0 0, .slice none 0 0, .slice none 0 0, .slice none 0 0, .slice none 0 0, .slice none 0 0, .slice none 0 0] : Array Value) 36 (0, 0))))
        have hB0' := Aside0.mk (far_low HB.out (Far.alloc (Far.refl (fun _ => False) wr) (.cells (#[.slice none 0 0, .slice none 0 0, .slice none 0 0, .slice none 0 0, .slice none 0 0, .slice none 0 0, .slice none 0 0, .slice none 0 0] : Array Value) 36 (0, 0))) HR.out.gt (fun _ h => h.elim))
        replace hwbR := Aside0.mk hwbR
        have hgB := Aside0.mk (show B0 ≤ wb by rw [hwb]; exact HR.out.gt)
        clear HR HB e0 e0' hb2
        rw [← hwb]
        replace hwb := Aside0.mk hwb
        go_loopg [9] 8 (fun kq v9 w' => ∃ (n : Nat), v9 = .int .i64 (n : Int) ∧ Aside0 (n + kq = 8) ∧ Aside0 (Ram w' B0 a own F t B) ∧ Aside0 (Was w' wb a (fun j => part own B (j : Int) 0 4096) n w'.heap.size) ∧ Aside0 (Below B0 w2 w'))
        case atStart => exact ⟨0, rfl, ⟨by omega⟩, hR0, hWs0, hB0'⟩
        case round =>
          obtain ⟨n, rfl, HK2, HR2, HW2, HB2⟩ := hrel
          clear hR0 hWs0 hB0'
          cases gk with
          | zero =>
            have e0 : decide ((n : Int) < 8) = false := decide_eq_false (by have := HK2.out; omega)
            have e0' : decide (n < 8) = false := decide_eq_false (by have := HK2.out; omega)
            obtain rfl : n = 8 := by have := HK2.out; omega
            have hb2' : Below w2.heap.size w2 wr := by rw [← hB0.out]; exact HB2.out
            have hbxr := Aside0.mk (blk_below hbx2.out hb2')
            have hdCr := Kd.C_below hdC2.out hb2'
            obtain ⟨k1, k2, k3, k4, k5⟩ := deed_cells (k := d.f0) hbxr.out
            have hgd2 := Aside0.mk (HD.out.wr d.f1 d.f2 d.f5 (isBytes.of_wf hdwf.out.2.2.2.2.2.2))
            have hWr := Aside0.mk (write_any B0 a own F t B d.f1 d.f2 dA dc d.f5 wr HR2.out HD.out hdCr (by have := hl'.out; omega) (fun ad e hp he => by
              have h1 := Kd.C_lt (by rw [e] at hdC; exact hdC.out) hp (by decide)
              have h2 := (HR2.out.own_lt _ (.inl rfl)).1
              have h3 := hBW.out
              omega))
            clear hb2' hdCr k3 k4
            obtain ⟨B2, hB2⟩ : ∃ B2, B2 = wrB own B d.f1 d.f2 d.f5 := ⟨_, rfl⟩
            rw [← hB2] at hWr hgd2
            replace hB2 := Aside0.mk hB2
            obtain ⟨ok, hok⟩ : ∃ ok, ok = decide (pk own d.f1 d.f2 (d.f5.length : Int)) := ⟨_, rfl⟩
            rw [← hok] at hWr
            replace hok := Aside0.mk hok
            go_upto_region 17 with (go_at_call 10; refine hWr.out.mono ?_; rintro e w6 ⟨rfl, hR6, hf6⟩; replace hR6 := Aside0.mk hR6; replace hf6 := Aside0.mk hf6)
            have hgw := hgB.out
            have hW6 := Aside0.mk (HW2.out.stay hf6.out (fun e => by rcases e with e | e; (have := hwbR.out a.g (.inl rfl); omega); (have := hwbR.out a.b (.inr (.inl rfl)); omega)) (fun k hk _ _ e => by rcases e with e | e; exact hk (.inl e); exact hk (.inr (.inl e))))
            have hB6 := Aside0.mk (far_low HB2.out hf6.out HR2.out.gt (fun k hk => by rcases hk with e | e; (rw [e]; exact (HR2.out.own_lt _ (.inl rfl)).1); (rw [e]; exact (HR2.out.own_lt _ (.inr (.inl rfl))).1)))
            obtain ⟨N, hN⟩ : ∃ N, N = wr.heap.size := ⟨_, rfl⟩
            rw [← hN] at hW6
            have hN6 := Aside0.mk (show N ≤ w6.heap.size by rw [hN]; exact hf6.out.size)
            have hwN := Aside0.mk (show wb < N by rw [hN]; obtain ⟨vs, _, hb, _⟩ := HW2.out.of; exact blk_lt hb)
            clear k1 k2 k5 HR2 HW2 HB2 hf6 hWr hN hgw e0 e0' hbxr
            go_wp2
            go_loopg [11, 12, 13, 14, 15, 16, 17, 18, 19] 8 (fun kq v11 v12 v13 v14 v15 v16 v17 v18 v19 w' => ∃ (n : Nat), v11 = .int .i64 (n : Int) ∧ Aside0 (n + kq = 8) ∧ Aside0 (Ram w' B0 a own F t B2) ∧ Aside0 (Was w' wb a (fun j => part own B (j : Int) 0 4096) 8 N) ∧ Aside0 (Below B0 w2 w') ∧ Aside0 (N ≤ w'.heap.size))
            case atStart => exact ⟨0, rfl, ⟨by omega⟩, hR6, hW6, hB6, hN6⟩
            case round =>
              obtain ⟨n, rfl, HK3, HR3, HW3, HB3, HN3⟩ := hrel
              clear hR6 hW6 hB6 hN6
              cases gk with
              | zero =>
                have e0 : decide ((n : Int) < 8) = false := decide_eq_false (by have := HK3.out; omega)
                have e0' : decide (n < 8) = false := decide_eq_false (by have := HK3.out; omega)
                obtain rfl : n = 8 := by have := HK3.out; omega
                have hb3 : Below w2.heap.size w2 wr := by rw [← hB0.out]; exact HB3.out
                have hbW3 := Aside0.mk (below_step hW2.out hb3)
                cases ok with
                | false =>
                  go_wp2_with (go_at_call 7; refine (lives_calls _).mono ?_; rintro e w8 ⟨rfl, hb8⟩; replace hb8 := Aside0.mk hb8)
                  go_returns
                  exact ⟨rfl, below_step hbW3.out hb8.out⟩
                | true =>
                  have hpk : pk own d.f1 d.f2 (d.f5.length : Int) := of_decide_eq_true hok.out.symm
                  obtain ⟨x, y, z, hx, _, _, h1, h2, _, _⟩ := pok_nat (s := ⟨own, F, 0, B, 0⟩) HD.out hpk
                  have h1' : x < own.length := h1
                  have h2' : own.getD x 0 ≠ 0 := h2
                  have hx8 : x < 8 := by have := HD.out.ok.len; have e : own.length = 8 := this; omega
                  have hbxr := Aside0.mk (blk_below hbx2.out hb3)
                  have hGv := gv_tk own F t x h1' h2'
                  have hgb : (gv own F t (x : Int)).b = true := by
                    unfold gv
                    rw [if_pos (by unfold ownerOf; rw [if_pos (by omega)]; exact h2')]
                  have hGG : Gd (gv own F t (x : Int)).own (gv own F t (x : Int)).F B2 8 9 := ⟨hgd2.out.ok.gv (by omega) t (x : Int), hgd2.out.m96, hgd2.out.B, hgd2.out.by_⟩
                  have hgive := fun m => give_any B0 a own F t B2 (x : Int) (wr.drewN m) (HR3.out.below (pw_below_drewN (Below.refl wr.heap.size wr) m)) hgd2.out
                  rw [hgb] at hgive
                  have htake := fun a' W h => take_any B0 a' (gv own F t (x : Int)).own (gv own F t (x : Int)).F (gv own F t (x : Int)).t B2 3 W h hGG
                  have hGT := hGG.take (gv own F t (x : Int)).t 3
                  rw [hGv] at htake hGT
                  generalize gv own F t (x : Int) = G at hgive htake hGG
                  obtain ⟨own3, ho3⟩ : ∃ o, o = (own.set x 0).set x 3 := ⟨_, rfl⟩
                  obtain ⟨t3, ht3⟩ : ∃ o, o = wrap64 (wrap64 (t + 1) + 1) := ⟨_, rfl⟩
                  obtain ⟨Z, hZ⟩ : ∃ Z, Z = List.replicate 4096 (0 : Int) := ⟨_, rfl⟩
                  have hown3 : ownerOf own3 (x : Int) ≠ 0 := by
                    unfold ownerOf
                    rw [if_pos (by rw [ho3]; simp; omega), ho3]
                    simp [h1']
                  simp only [if_true, Int.toNat_natCast, ← ho3, ← ht3, ← hZ] at htake hGT
                  have hZl : Z.length = 4096 := by rw [hZ, List.length_replicate]
                  have hBl : B2.length = 4096 * 8 := hgd2.out.B
                  have hpart : part own3 (over B2 (4096 * x) Z) (x : Int) 0 4096 = Z := by
                    rw [part_full hown3]
                    have := take_over B2 Z (4096 * x) (by omega) 0
                    simp only [List.replicate_zero, List.append_nil, Nat.add_zero] at this
                    rw [hZl] at this
                    exact this
                  have hrd := fun a' W h => read_any B0 a' own3 F t3 (over B2 (4096 * x) Z) (x : Int) 0 4096 W h hGT (by omega)
                  rw [hpart, decide_eq_true ((pk_full own3 x).2 hown3), hZl] at hrd
                  obtain ⟨q3, hq3⟩ := HR3.out.of
                  have hbl := hq3.blk
                  have ka : wr.cell? ⟨a.g, 0, none⟩ = some (.pointer (some ⟨a.f, 0, none⟩)) := (blk_cell hbl 0).trans rfl
                  have kb : wr.cell? ⟨W.heap.size, 1, none⟩ = some (.int .i64 (x : Int)) := by rw [← hx]; exact (deed_cells (k := d.f0) hbxr.out).1
                  replace hgive := Aside0.mk hgive
                  replace htake := Aside0.mk htake
                  replace hrd := Aside0.mk hrd
                  replace hZ := Aside0.mk hZ
                  replace hZl := Aside0.mk hZl
                  replace hx := Aside0.mk hx
                  clear hpk h1 h2 h1' h2' hx8 hGv hgb hGG hGT ho3 ht3 hown3 hBl hpart hq3 hbl hb3
                  go_upto_region 41 with (fail)
                  go_region_held3 (fun w' => w'.cell? ⟨a.g, 0, none⟩ = some (.pointer (some ⟨a.f, 0, none⟩)) ∧ w'.cell? ⟨W.heap.size, 1, none⟩ = some (.int .i64 (x : Int)))
                    (first | go_keep | (go_split_ands; refine ⟨?_, ?_⟩; (exact ca5); (exact cb5)))
                    (first | (go_at_call 13; refine (hgive.out _).mono ?_; rintro e w5 ⟨A2, c2, rfl, hr5, hf5, hk5⟩; obtain ⟨q5, hq5⟩ := hr5.of; have ca5 : w5.cell? ⟨a.g, 0, none⟩ = some (.pointer (some ⟨a.f, 0, none⟩)) := (blk_cell hq5.blk 0).trans rfl; have hbb := Below.trans (pw_below_drewN HB3.out _) (hf5.below (B := B0) (Nat.le_trans HR3.out.gt (pw_below_drewN (Below.refl 0 wr) _).size) (fun k hk => (HR3.out.own_lt k hk).1)); have cb5 := (deed_cells (k := d.f0) (blk_below hbx2.out (by rw [← hB0.out]; exact hbb))).1; rw [hx.out] at cb5; replace hbb := Aside0.mk hbb; replace hr5 := Aside0.mk hr5; clear hq5 hf5 hk5))
                  obtain ⟨Zc, hZc, hmk⟩ := make4096
                  replace hZc := Aside0.mk hZc
                  have hT : Calls Try.prog 9 #[.pointer (some ⟨a.g, 0, none⟩), .int .i64 3] w5 _ := htake.out (a.at A2 c2) w5 hr5.out
                  replace hT := Aside0.mk hT
                  go_upto_region 43 with (go_at_call 9; refine hT.out.mono ?_; rintro e w6 ⟨A3, c3, rfl, hr6, hf6, hk6⟩; replace hr6 := Aside0.mk hr6; replace hf6 := Aside0.mk hf6)
                  have hbb6 := Aside0.mk (far_low hbb.out hf6.out hr5.out.gt (fun k hk => (hr5.out.own_lt k hk).1))
                  have hRr : Calls Try.prog 11 #[.pointer (some ⟨a.g, 0, none⟩), .int .i64 (x : Int), .int .i64 0, .int .i64 4096] w6 _ := hrd.out ((a.at A2 c2).at A3 c3) w6 hr6.out
                  replace hRr := Aside0.mk hRr
                  go_upto_region 44 with (go_at_call 11; refine hRr.out.mono ?_; rintro e w7 ⟨A7, c7, rfl, hr7, hR7, hf7⟩; replace hr7 := Aside0.mk hr7; replace hR7 := Aside0.mk hR7; replace hf7 := Aside0.mk hf7)
                  have hbb7 := Aside0.mk (far_low hbb6.out hf7.out hr6.out.gt (fun k hk => by rw [hk]; exact (hr6.out.own_lt _ (.inl rfl)).1))
                  have hb7 : Below w2.heap.size w2 w7 := by rw [← hB0.out]; exact hbb7.out
                  have hbW7 := Aside0.mk (below_step hW2.out hb7)
                  have kn := (deed_cells (k := d.f0) (blk_below hbx2.out hb7)).1
                  rw [hx.out] at kn
                  have hro := Kd.R_reads' hr7.out
                  have hbz := Aside0.mk (below_alloc (Below.refl _ w7) (.cells Zc 5 (0, 0)))
                  have hBy := gunnyref01_Bytes.calls A7 c7 Z (some ⟨w7.heap.size, 0, none⟩) 4096 Z true (w7.alloc (.cells Zc 5 (0, 0))) (Kd.C_below hro.2.2 hbz.out) (by rw [hZl.out]; exact hro.2.1) (lit_C' w7 .u8 Z Zc 5 (0, 0) (by rw [hZc.out, hZ.out]) (by rw [hZl.out]; decide)) (by rw [hZl.out]; decide) (bytes_same Z)
                  rw [hZl.out] at hBy
                  replace hBy := Aside0.mk hBy
                  clear hb7 hro
                  go_wp2_with (first | (go_at_call 14; refine hBy.out.mono ?_; rintro e w8 ⟨rfl, hd8⟩; replace hd8 := Aside0.mk hd8) | (go_at_call 7; refine (lives_calls _).mono ?_; rintro e w9 ⟨rfl, hb9⟩; replace hb9 := Aside0.mk hb9))
                  go_returns
                  exact ⟨rfl, below_step (below_step (below_step hbW7.out hbz.out) hd8.out.below) hb9.out⟩
              | succ k =>
                have hn8 : n < 8 := by have := HK3.out; omega
                have e1 : decide ((n : Int) < 8) = true := decide_eq_true (by omega)
                have e2 : decide (n < 8) = true := decide_eq_true hn8
                have n0 : (0 : Int) ≤ (n : Int) := by omega
                have n8 : (n : Int) < 8 := by omega
                have ws := Aside0.mk (w64s n (by omega))
                have hRd := fun W (hW : Ram W B0 a own F t B2) => read_any B0 a own F t B2 (n : Int) 0 4096 W hW hgd2.out (by omega)
                by_cases ho : ownerOf own (n : Int) ≠ 0
                ·
                  have hB2l : B2.length = B.length := by rw [hB2.out]; exact wrB_length HD.out _ _ _
                  have hBl : B.length = 4096 * 8 := HD.out.B
                  obtain ⟨NOW, hNOW⟩ : ∃ X, X = part own B2 (n : Int) 0 4096 := ⟨_, rfl⟩
                  obtain ⟨WAS, hWAS⟩ : ∃ X, X = part own B (n : Int) 0 4096 := ⟨_, rfl⟩
                  have hNl : NOW.length = 4096 := by rw [hNOW, part_full ho, List.length_take, List.length_drop]; omega
                  have hWl : WAS.length = 4096 := by rw [hWAS, part_full ho, List.length_take, List.length_drop]; omega
                  have hel : ∀ i : Nat, i < 4096 → (inW own n i d.f1 d.f2 d.f5 → NOW[i]? = d.f5[((i : Int) - d.f2).toNat]?) ∧ (¬ inW own n i d.f1 d.f2 d.f5 → NOW[i]? = WAS[i]?) := by
                    intro i hi
                    have := wrB_get HD.out n i d.f1 d.f2 d.f5 hi
                    rw [hNOW, hWAS, part_get ho hi, part_get ho hi, hB2.out]
                    exact this
                  have hsame : ok = false → NOW = WAS := by
                    intro e
                    rw [hNOW, hWAS, hB2.out]
                    unfold wrB
                    rw [if_neg (by rw [hok.out] at e; exact of_decide_eq_false e)]
                  have hp3 : decide (pk own (n : Int) 0 4096) = true := decide_eq_true ((pk_full own n).2 ho)
                  have q1 : (ownerOf own (n : Int) == 0) = false := beq_eq_false_iff_ne.mpr ho
                  have q2 : (ownerOf own (n : Int) != 0) = true := by rw [bne, q1]; rfl
                  rw [← hNOW, hNl, hp3] at hRd
                  replace hRd := Aside0.mk hRd
                  replace hel := Aside0.mk hel
                  replace hsame := Aside0.mk hsame
                  replace hNl := Aside0.mk hNl
                  replace hWl := Aside0.mk hWl
                  replace hWAS := Aside0.mk hWAS
                  clear hp3 hNOW hB2l hBl
                  obtain ⟨ow, how⟩ : ∃ ow, ow = ownerOf own (n : Int) := ⟨_, rfl⟩
                  rw [← how] at q1 q2
                  replace how := Aside0.mk how
                  clear ho
                  go_upto_region 21 with (go_at_call 11; refine (hRd.out _ HR3.out).mono ?_; rintro e w7 ⟨A7, c7, rfl, hr7, hR7, hf7⟩; replace hR7 := Aside0.mk hR7; replace hf7 := Aside0.mk hf7; replace hr7 := Aside0.mk hr7)
                  have hW7 := Aside0.mk (HW3.out.stay hf7.out (fun e => by have := hwbR.out a.g (.inl rfl); omega) (fun k hk _ _ e => hk (.inl e)))
                  have hB7 := Aside0.mk (far_low HB3.out hf7.out HR3.out.gt (fun k hk => by rw [hk]; exact (HR3.out.own_lt _ (.inl rfl)).1))
                  obtain ⟨q7, hq7⟩ := hR7.out.of
                  have k0 : w7.cell? ⟨a.g, 0, none⟩ = some (.pointer (some ⟨a.f, 0, none⟩)) := (blk_cell hq7.blk 0).trans rfl
                  have hO := owner_q B0 a.f own F t a.o a.c0 a.A1 a.c1 (n : Int) w7 hq7.fs
                  rw [← how.out] at hO
                  replace hO := Aside0.mk hO
                  replace hq7 := Aside0.mk hq7
                  obtain ⟨A9, c9, kw, lw, Cw⟩ := hW7.out.cell n hn8
                  rw [show (part own B (n : Int) 0 4096) = WAS from hWAS.out.symm, hWl.out] at kw Cw
                  obtain ⟨adn, cn, hvn⟩ := Kd.R_slice1 hr7.out (by rw [hNl.out]; decide)
                  injection hvn with hvn _ hvc
                  subst hvn
                  subst hvc
                  obtain ⟨nb, rfl⟩ := Kd.R_head hr7.out
                  have hnb := Aside0.mk (Kd.R_base hr7.out nb rfl)
                  have hnw := Aside0.mk (show nb < w7.heap.size from Kd.R_lt hr7.out nb rfl)
                  have hr7' := Aside0.mk (Kd.R_mono (Kd.R_tight rfl (Kd.R_lower hr7.out HR3.out.gt)) (fun k hk => Option.some.inj hk : ∀ k, some k = (Value.slice (some ⟨nb, 0, none⟩) _ _).ownBlock → k = nb))
                  replace Cw := Aside0.mk Cw
                  clear lw hr7
                  go_wp2_with (go_at_call 12; refine hO.out.mono ?_; rintro e w8 ⟨rfl, rfl⟩)
                  have hb8 : Below w2.heap.size w2 w8 := by rw [← hB0.out]; exact hB7.out
                  have hbW8 := Aside0.mk (below_step hW2.out hb8)
                  have hbx8 := Aside0.mk (blk_below hbx2.out hb8)
                  have kwA := Aside0.mk kw
                  clear k0 kw hb8
                  go_loopg [14, 15] 4096 (fun kq v14 v15 w' => ∃ (i : Nat), v14 = .int .i64 (i : Int) ∧ Aside0 (i + kq = 4096) ∧ Aside0 (Below w8.heap.size w8 w'))
                  case atStart => exact ⟨0, rfl, ⟨by omega⟩, ⟨Below.refl _ _⟩⟩
                  case round =>
                    obtain ⟨i, rfl, HK4, HB4⟩ := hrel
                    cases gk with
                    | zero =>
                      have f1 : decide ((i : Int) < 4096) = false := decide_eq_false (by have := HK4.out; omega)
                      have f2 : decide (i < 4096) = false := decide_eq_false (by have := HK4.out; omega)
                      obtain rfl : i = 4096 := by have := HK4.out; omega
                      have hr8 := Aside0.mk (Kd.R_below hr7'.out HB4.out)
                      have hR8 := Aside0.mk (hR7.out.below HB4.out)
                      have hW8 := Aside0.mk (hW7.out.below HB4.out)
                      have hB8 := Aside0.mk (far_low hB7.out (Far.of_below (S := fun _ => False) HB4.out) hR7.out.gt (fun _ h => h.elim))
                      have hN8 := Aside0.mk (Nat.le_trans (Nat.le_trans HN3.out hf7.out.size) HB4.out.size)
                      have hNn := Aside0.mk (show N ≤ nb from Nat.le_trans HN3.out hnb.out)
                      have hRn := Aside0.mk (show ∀ k, Rown a k → k ≠ nb from fun k hk e => by have := (HR3.out.own_lt k hk).2; have := hnb.out; omega)
                      clear HB4 hr7' hR7 hW7 hB7 hbx8 hbW8 kwA Cw hnw
                      go_wp2
                      go_loopg [16] 4096 (fun kq v16 w' => ∃ (i : Nat) (X : List Int), v16 = .int .i64 (i : Int) ∧ Aside0 (i + kq = 4096) ∧ Aside0 (X.length = 4096) ∧ Aside0 (RB w' B0 (fun k => k = nb) (.slice (some ⟨nb, 0, none⟩) 4096 c7) X) ∧ Aside0 (Far (fun k => k = nb) wr w'))
                      case atStart => exact ⟨0, NOW, rfl, ⟨by omega⟩, hNl, hr8, ⟨Far.refl _ _⟩⟩
                      case round =>
                        obtain ⟨i, X, rfl, HK5, HX5, HR5, HF5⟩ := hrel
                        cases gk with
                        | zero =>
                          have f3 : decide ((i : Int) < 4096) = false := decide_eq_false (by have := HK5.out; omega)
                          have f4 : decide (i < 4096) = false := decide_eq_false (by have := HK5.out; omega)
                          have hR9 := Aside0.mk (hR8.out.stay HF5.out (fun k hk => hRn.out k hk))
                          have hW9 := Aside0.mk (hW8.out.stay HF5.out (fun e => by have := hwN.out; have := hNn.out; omega) (fun k _ _ hk e => by have := hNn.out; omega))
                          have hB9 := Aside0.mk (far_low hB8.out HF5.out hR8.out.gt (fun k hk => by rw [hk]; exact Nat.le_trans (Nat.le_trans hgB.out (Nat.le_of_lt hwN.out)) hNn.out))
                          have hN9 := Aside0.mk (Nat.le_trans hN8.out HF5.out.size)
                          obtain rfl : i = 4096 := by have := HK5.out; omega
                          clear hr8 hR8 hW8 hB8 hN8 HR5 HF5
                          go_upto_region 34 with (go_at_call 11; refine (hRd.out _ hR9.out).mono ?_; rintro e w9 ⟨A12, c12, rfl, hr12, hR12, hf12⟩; have hW12 := Aside0.mk (hW9.out.stay hf12 (fun e => by have := hwbR.out a.g (.inl rfl); omega) (fun k hk _ _ e => hk (.inl e))); have hB12 := Aside0.mk (far_low hB9.out hf12 hR9.out.gt (fun k hk => by rw [hk]; exact (hR9.out.own_lt _ (.inl rfl)).1)); have hN12 := Aside0.mk (Nat.le_trans hN9.out hf12.size); replace hR12 := Aside0.mk hR12; replace hr12 := Aside0.mk hr12; clear hf12)
                          clear hR9 hW9 hB9 hN9
                          go_wp2
                          cases ok with
                          | true =>
                            go_loopg [19] 0 (fun kq v19 w' => v19 = .int .i64 0 ∧ w' = w9)
                            case atStart => exact ⟨rfl, rfl⟩
                            case round =>
                              obtain ⟨rfl, rfl⟩ := hrel
                              go_wp2
                              go_roundg k
                              case measure => omega
                              case rel => exact ⟨n + 1, by first | rw [ws.out] | rfl, ⟨by have := HK3.out; omega⟩, hR12, hW12, hB12, hN12⟩
                          | false =>
                            have hNW := hsame.out rfl
                            obtain ⟨adn, cn', hvn⟩ := Kd.R_slice1 hr12.out (by rw [hNl.out]; decide)
                            injection hvn with hvn _ hvc
                            subst hvn
                            subst hvc
                            obtain ⟨nb2, rfl⟩ := Kd.R_head hr12.out
                            obtain ⟨A13, c13, kw, lw, Cw⟩ := hW12.out.cell n hn8
                            rw [show (part own B (n : Int) 0 4096) = WAS from hWAS.out.symm, hWl.out] at kw Cw
                            rw [← hNW] at Cw
                            replace kw := Aside0.mk kw
                            replace Cw := Aside0.mk Cw
                            clear lw hNW
                            go_loopg [19] 4096 (fun kq v19 w' => ∃ (i : Nat), v19 = .int .i64 (i : Int) ∧ Aside0 (i + kq = 4096) ∧ Aside0 (Below w9.heap.size w9 w'))
                            case atStart => exact ⟨0, rfl, ⟨by omega⟩, ⟨Below.refl _ _⟩⟩
                            case round =>
                              obtain ⟨i, rfl, HK6, HB6⟩ := hrel
                              cases gk with
                              | zero =>
                                have f5 : decide ((i : Int) < 4096) = false := decide_eq_false (by have := HK6.out; omega)
                                have f6 : decide (i < 4096) = false := decide_eq_false (by have := HK6.out; omega)
                                obtain rfl : i = 4096 := by have := HK6.out; omega
                                have hR14 := Aside0.mk (hR12.out.below HB6.out)
                                have hW14 := Aside0.mk (hW12.out.below HB6.out)
                                have hB14 := Aside0.mk (far_low hB12.out (Far.of_below (S := fun _ => False) HB6.out) hR12.out.gt (fun _ h => h.elim))
                                have hN14 := Aside0.mk (Nat.le_trans hN12.out HB6.out.size)
                                go_wp2
                                go_roundg k
                                case measure => omega
                                case rel => exact ⟨n + 1, by first | rw [ws.out] | rfl, ⟨by have := HK3.out; omega⟩, hR14, hW14, hB14, hN14⟩
                              | succ k6 =>
                                have hi : i < 4096 := by have := HK6.out; omega
                                have f5 : decide ((i : Int) < 4096) = true := decide_eq_true (by omega)
                                have f6 : decide (i < 4096) = true := decide_eq_true hi
                                have i0 : (0 : Int) ≤ (i : Int) := by omega
                                have i1 : (i : Int) < 4096 := by omega
                                have wi := Aside0.mk (w64s i (by omega))
                                have hiN : i < NOW.length := by rw [hNl.out]; exact hi
                                obtain ⟨x, hx⟩ : ∃ x, x = NOW[i] := ⟨_, rfl⟩
                                obtain ⟨kx, _⟩ := Kd.R_celln (0 : Int) (Kd.R_below hr12.out HB6.out) (i : Int) (by omega) (by omega)
                                have ex : rdOf (0 : Int) NOW (i : Int) = x := by rw [hx]; unfold rdOf; simp [hiN]
                                rw [ex, Int.toNat_natCast] at kx
                                obtain ⟨ad9, rfl, ky⟩ := C_at (Kd.C_below Cw.out HB6.out) i hiN
                                rw [← hx] at ky
                                have kw' := cell_far (Far.of_below (S := fun _ => False) HB6.out) (fun h => h) kw.out
                                have q3 : (x != x) = false := by simp
                                clear hx ex
                                go_upto_region 37 with (fail)
                                go_quiet (fail)
                                go_wp2
                                go_roundg k6
                                case measure => omega
                                case rel => exact ⟨i + 1, by first | rw [wi.out] | rfl, ⟨by have := HK6.out; omega⟩, by first | exact HB6 | exact ⟨pw_below_drewN HB6.out _⟩⟩
                        | succ k5 =>
                          have hi : i < 4096 := by have := HK5.out; omega
                          have f1 : decide ((i : Int) < 4096) = true := decide_eq_true (by omega)
                          have f2 : decide (i < 4096) = true := decide_eq_true hi
                          have i0 : (0 : Int) ≤ (i : Int) := by omega
                          have i1 : (i : Int) < 4096 := by omega
                          have wi := Aside0.mk (w64s i (by omega))
                          obtain ⟨kx, fx⟩ := Kd.R_celln (0 : Int) HR5.out (i : Int) (by omega) (by omega)
                          rw [Int.toNat_natCast] at kx fx
                          have hput := Kd.R_putn HR5.out (i : Int) (99 : Int)
                          rw [Int.toNat_natCast] at hput
                          replace hput := Aside0.mk hput
                          go_wp2
                          go_roundg k5
                          case measure => omega
                          case rel => exact ⟨i + 1, X.set i 99, by first | rw [wi.out] | rfl, ⟨by have := HK5.out; omega⟩, ⟨by rw [List.length_set]; exact HX5.out⟩, hput, ⟨HF5.out.set1 i _⟩⟩
                    | succ k4 =>
                      have hi : i < 4096 := by have := HK4.out; omega
                      have f1 : decide ((i : Int) < 4096) = true := decide_eq_true (by omega)
                      have f2 : decide (i < 4096) = true := decide_eq_true hi
                      have i0 : (0 : Int) ≤ (i : Int) := by omega
                      have i1 : (i : Int) < 4096 := by omega
                      have wi := Aside0.mk (w64s i (by omega))
                      have hiN : i < NOW.length := by rw [hNl.out]; exact hi
                      have hiW : i < WAS.length := by rw [hWl.out]; exact hi
                      have hel1 := hel.out i hi
                      obtain ⟨x, hx⟩ : ∃ x, x = NOW[i] := ⟨_, rfl⟩
                      obtain ⟨y, hy⟩ : ∃ y, y = WAS[i] := ⟨_, rfl⟩
                      obtain ⟨kx, _⟩ := Kd.R_celln (0 : Int) (Kd.R_below hr7'.out HB4.out) (i : Int) (by omega) (by omega)
                      have ex : rdOf (0 : Int) NOW (i : Int) = x := by rw [hx]; unfold rdOf; simp [hiN]
                      rw [ex, Int.toNat_natCast] at kx
                      obtain ⟨ad9, rfl, ky⟩ := C_at (Kd.C_below Cw.out HB4.out) i hiW
                      rw [← hy] at ky
                      have kw := cell_far (Far.of_below (S := fun _ => False) HB4.out) (fun h => h) kwA.out
                      obtain ⟨k1, k2, _, _, k5⟩ := deed_cells (k := d.f0) (blk_below hbx8.out HB4.out)
                      have hxy : ¬ inW own n i d.f1 d.f2 d.f5 → (x != y) = false := fun h => by
                        have := hel1.2 h
                        rw [List.getElem?_eq_getElem hiN, List.getElem?_eq_getElem hiW, ← hx, ← hy] at this
                        injection this with this
                        rw [this]
                        simp
                      have hin := hel1.1
                      have hnin : ¬ ((pk own d.f1 d.f2 (d.f5.length : Int)) ∧ (n : Int) = d.f1 ∧ d.f2 ≤ (i : Int) ∧ (i : Int) - d.f2 < (d.f5.length : Int)) → (x != y) = false := hxy
                      replace hx := Aside0.mk hx
                      clear hel1 hy ex
                      cases ok with
                      | false =>
                        have q3 := hnin (fun h => of_decide_eq_false hok.out.symm h.1)
                        clear hnin hxy hin
                        go_upto_region 27 with (fail)
                        go_quiet (fail)
                        go_wp2
                        go_roundg k4
                        case measure => omega
                        case rel => exact ⟨i + 1, by first | rw [wi.out] | rfl, ⟨by have := HK4.out; omega⟩, by first | exact HB4 | exact ⟨pw_below_drewN HB4.out _⟩⟩
                      | true =>
                        have hpk : pk own d.f1 d.f2 (d.f5.length : Int) := of_decide_eq_true hok.out.symm
                        by_cases h1 : (n : Int) = d.f1
                        · have g1 : ((n : Int) == d.f1) = true := by rw [h1]; simp
                          by_cases h2 : d.f2 ≤ (i : Int)
                          · have g2 : decide (d.f2 ≤ (i : Int)) = true := decide_eq_true h2
                            have g3 : decide ((i : Int) ≥ d.f2) = true := decide_eq_true h2
                            have hd2 : 0 ≤ d.f2 := hpk.2.2.1
                            obtain ⟨j, hj⟩ : ∃ j : Nat, (i : Int) - d.f2 = (j : Int) := ⟨((i : Int) - d.f2).toNat, by omega⟩
                            have ej : wrap64 ((i : Int) - d.f2) = (j : Int) := by rw [hj]; exact wid j (by omega)
                            by_cases h3 : (i : Int) - d.f2 < (d.f5.length : Int)
                            · have g4 : decide ((j : Int) < (d.f5.length : Int)) = true := decide_eq_true (by omega)
                              have g5 : decide (j < d.f5.length) = true := decide_eq_true (by omega)
                              have hjl : j < d.f5.length := by omega
                              have hin2 := hin ⟨hpk, h1, h2, h3⟩
                              rw [hj, Int.toNat_natCast, List.getElem?_eq_getElem hjl, List.getElem?_eq_getElem hiN, ← hx.out] at hin2
                              injection hin2 with hin2
                              obtain ⟨add, rfl, kd⟩ := C_at (Kd.C_below hdC.out (below_step hbW8.out HB4.out)) j hjl
                              rw [← hin2] at kd
                              have j0 : (0 : Int) ≤ (j : Int) := by omega
                              have j1 : (j : Int) < (d.f5.length : Int) := by omega
                              have q3 : (x != x) = false := by simp
                              clear hnin hxy hin hin2 hj hpk h1 h2 h3 hd2
                              go_upto_region 27 with (fail)
                              go_quiet (fail)
                              go_wp2
                              go_roundg k4
                              case measure => omega
                              case rel => exact ⟨i + 1, by first | rw [wi.out] | rfl, ⟨by have := HK4.out; omega⟩, by first | exact HB4 | exact ⟨pw_below_drewN HB4.out _⟩⟩
                            · have g4 : decide ((j : Int) < (d.f5.length : Int)) = false := decide_eq_false (by omega)
                              have g5 : decide (j < d.f5.length) = false := decide_eq_false (by omega)
                              have q3 := hnin (fun h => h3 h.2.2.2)
                              clear hnin hxy hin hj hpk h1 h2 h3 hd2
                              go_upto_region 27 with (fail)
                              go_quiet (fail)
                              go_wp2
                              go_roundg k4
                              case measure => omega
                              case rel => exact ⟨i + 1, by first | rw [wi.out] | rfl, ⟨by have := HK4.out; omega⟩, by first | exact HB4 | exact ⟨pw_below_drewN HB4.out _⟩⟩
                          · have g2 : decide (d.f2 ≤ (i : Int)) = false := decide_eq_false h2
                            have g3 : decide ((i : Int) ≥ d.f2) = false := decide_eq_false h2
                            have q3 := hnin (fun h => h2 h.2.2.1)
                            clear hnin hxy hin hpk h1 h2
                            go_upto_region 27 with (fail)
                            go_quiet (fail)
                            go_wp2
                            go_roundg k4
                            case measure => omega
                            case rel => exact ⟨i + 1, by first | rw [wi.out] | rfl, ⟨by have := HK4.out; omega⟩, by first | exact HB4 | exact ⟨pw_below_drewN HB4.out _⟩⟩
                        · have g1 : ((n : Int) == d.f1) = false := beq_eq_false_iff_ne.mpr h1
                          have q3 := hnin (fun h => h1 h.2.1)
                          clear hnin hxy hin hpk h1
                          go_upto_region 27 with (fail)
                          go_quiet (fail)
                          go_wp2
                          go_roundg k4
                          case measure => omega
                          case rel => exact ⟨i + 1, by first | rw [wi.out] | rfl, ⟨by have := HK4.out; omega⟩, by first | exact HB4 | exact ⟨pw_below_drewN HB4.out _⟩⟩
                ·
                  have hp1 : part own B2 (n : Int) 0 4096 = [] := part_none ho
                  have hp2 : part own B (n : Int) 0 4096 = [] := part_none ho
                  have hp3 : decide (pk own (n : Int) 0 4096) = false := decide_eq_false (fun h => ho ((pk_full own n).1 h))
                  have ho0 : ownerOf own (n : Int) = 0 := by
                    rcases Classical.em (ownerOf own (n : Int) = 0) with h | h
                    · exact h
                    · exact absurd h ho
                  rw [hp1, hp3] at hRd
                  replace hRd := Aside0.mk hRd
                  replace ho0 := Aside0.mk ho0
                  replace hp2 := Aside0.mk hp2
                  clear ho hp1 hp3
                  go_upto_region 21 with (go_at_call 11; refine (hRd.out _ HR3.out).mono ?_; rintro e w7 ⟨A7, c7, rfl, hr7, hR7, hf7⟩; replace hR7 := Aside0.mk hR7; replace hf7 := Aside0.mk hf7; clear hr7)
                  have hW7 := Aside0.mk (HW3.out.stay hf7.out (fun e => by have := hwbR.out a.g (.inl rfl); omega) (fun k hk _ _ e => hk (.inl e)))
                  have hB7 := Aside0.mk (far_low HB3.out hf7.out HR3.out.gt (fun k hk => by rw [hk]; exact (HR3.out.own_lt _ (.inl rfl)).1))
                  obtain ⟨q7, hq7⟩ := hR7.out.of
                  have k0 : w7.cell? ⟨a.g, 0, none⟩ = some (.pointer (some ⟨a.f, 0, none⟩)) := (blk_cell hq7.blk 0).trans rfl
                  have hO := owner_q B0 a.f own F t a.o a.c0 a.A1 a.c1 (n : Int) w7 hq7.fs
                  rw [ho0.out] at hO
                  replace hO := Aside0.mk hO
                  replace hq7 := Aside0.mk hq7
                  obtain ⟨A9, c9, kw, lw, Cw⟩ := hW7.out.cell n hn8
                  rw [show (part own B (n : Int) 0 4096) = [] from hp2.out] at kw
                  clear lw Cw
                  go_wp2_with (go_at_call 12; refine hO.out.mono ?_; rintro e w8 ⟨rfl, rfl⟩)
                  go_loopg [14, 15] 0 (fun kq v14 v15 w' => v14 = .int .i64 0 ∧ w' = w8)
                  case atStart => exact ⟨rfl, rfl⟩
                  case round =>
                    obtain ⟨rfl, rfl⟩ := hrel
                    go_wp2
                    go_loopg [16] 0 (fun kq v16 w' => v16 = .int .i64 0 ∧ w' = wr)
                    case atStart => exact ⟨rfl, rfl⟩
                    case round =>
                      obtain ⟨rfl, rfl⟩ := hrel
                      go_wp2_with (go_at_call 11; refine (hRd.out _ hR7.out).mono ?_; rintro e w9 ⟨A9, c9, rfl, hr9, hR9, hf9⟩; have hW9 := Aside0.mk (hW7.out.stay hf9 (fun e => by have := hwbR.out a.g (.inl rfl); omega) (fun k hk _ _ e => hk (.inl e))); have hB9 := Aside0.mk (far_low hB7.out hf9 hR7.out.gt (fun k hk => by rw [hk]; exact (hR7.out.own_lt _ (.inl rfl)).1)); have hN9 := Aside0.mk (Nat.le_trans HN3.out (Nat.le_trans hf7.out.size hf9.size)); replace hR9 := Aside0.mk hR9; clear hr9 hf9)
                      go_loopg [19] 0 (fun kq v19 w' => v19 = .int .i64 0 ∧ w' = w9)
                      case atStart => exact ⟨rfl, rfl⟩
                      case round =>
                        obtain ⟨rfl, rfl⟩ := hrel
                        go_wp2
                        go_roundg k
                        case measure => omega
                        case rel => exact ⟨n + 1, by first | rw [ws.out] | rfl, ⟨by have := HK3.out; omega⟩, hR9, hW9, hB9, hN9⟩
          | succ k =>
            have hn8 : n < 8 := by have := HK2.out; omega
            have e1 : decide ((n : Int) < 8) = true := decide_eq_true (by omega)
            have e2 : decide (n < 8) = true := decide_eq_true hn8
            have n0 : (0 : Int) ≤ (n : Int) := by omega
            have n8 : (n : Int) < 8 := by omega
            have ws := Aside0.mk (w64s n (by omega))
            have hRd := Aside0.mk (read_any B0 a own F t B (n : Int) 0 4096 wr HR2.out HD.out (by omega))
            obtain ⟨L, hL⟩ : ∃ L, L = part own B (n : Int) 0 4096 := ⟨_, rfl⟩
            rw [← hL] at hRd
            replace hL := Aside0.mk hL
            go_wp2_with (go_at_call 11; refine hRd.out.mono ?_; rintro e w5 ⟨A5, c5, rfl, hr5, hR5, hf5⟩; have hW5 := Aside0.mk (HW2.out.stay hf5 (fun e => by have := hwbR.out a.g (.inl rfl); omega) (fun k hk _ _ e => hk (.inl e))); obtain ⟨v5, cv5, fv5, iv5⟩ := hW5.out.put; replace iv5 := iv5 hn8; replace hr5 := Aside0.mk hr5; replace hR5 := Aside0.mk hR5; replace hf5 := Aside0.mk hf5; obtain ⟨u5, hu5⟩ := Option.isSome_iff_exists.1 iv5; rw [hu5] at cv5; clear iv5 hu5)
            go_roundg k
            case measure => omega
            case rel => 
              refine ⟨n + 1, by first | rw [ws.out] | rfl, ⟨by have := HK2.out; omega⟩, ⟨hR5.out.stay ((Far.refl (fun k => k = wb) w5).set1 n _) (fun k hk e => by have := hwbR.out k hk; omega)⟩, ?_, ?_⟩
              · have hlt : w5.heap.size = (w5.setCell ⟨wb, n, none⟩ (.slice A5 L.length c5)).heap.size := by simp [World.setCell]
                have hro := Kd.R_reads' hr5.out
                have hlay := (hW5.out.more (Nat.le_trans hf5.out.size (Nat.le_refl _))).lay (m := n) (A := A5) (c := c5) hn8 (by show (part own B (n : Int) 0 4096).length ≤ c5; rw [← hL.out]; exact hro.2.1) (by show Kd.C _ _ _ (part own B (n : Int) 0 4096).length (part own B (n : Int) 0 4096); rw [← hL.out]; exact hro.2.2) (fun ad e hp => by
                  have hp' : 0 < L.length := by rw [hL.out]; exact hp
                  have h1 := Kd.R_base hr5.out ad.block (by rw [e]; simp [Value.ownBlock])
                  have h2 := Kd.R_lt hr5.out ad.block (by rw [e]; simp [Value.ownBlock])
                  have h3 : wb < wr.heap.size := by obtain ⟨vs, _, hb, _⟩ := HW2.out.of; exact blk_lt hb
                  exact ⟨fun hk => by have := hwbR.out _ hk; omega, by omega, h2⟩) (fun hk => by have := hwbR.out _ hk; omega)
                have hlay' := hlay.more (Nat.le_of_eq hlt)
                refine ⟨?_⟩
                have e9 : (part own B (n : Int) 0 4096).length = L.length := by rw [hL.out]
                rw [e9] at hlay'
                exact hlay'
              · refine ⟨?_⟩
                exact far_low (far_low HB2.out hf5.out HR2.out.gt (fun k hk => by rw [hk]; exact (HR2.out.own_lt _ (.inl rfl)).1)) ((Far.refl (fun k => k = wb) w5).set1 n _) hR5.out.gt (fun k hk => by rw [hk]; exact hgB.out)
      | succ k =>
        have hi : i < ls.length := by have := HK.out; omega
        have e1 : decide ((i : Int) < (ls.length : Int)) = true := decide_eq_true (by omega)
        have e2 : decide (i < ls.length) = true := decide_eq_true hi
        have hbW := below_step hW2.out hb2
        obtain ⟨ad, A5, c5, rfl, q0, q1, q2, q3, q4, q5, l5, hC5⟩ := at_T26 hC.out (i : Int) (by omega) (by omega)
        have hdw := hwf.out ls[i] (List.getElem_mem hi)
        rw [rd26 ls i hi] at q1 q2 q5 l5 hC5
        obtain ⟨x, hx⟩ : ∃ x, x = ls[i] := ⟨_, rfl⟩
        rw [← hx] at q1 q2 q5 l5 hC5 hdw
        clear q0 q3 q4 hx
        rw [Int.toNat_natCast] at q1 q2 q5
        have cells : ∀ w', Below W.heap.size W w' → w'.cell? ⟨(ad.add (i * 6)).block, (ad.add (i * 6)).off + 1, none⟩ = some (.int .i64 x.f1) ∧ w'.cell? ⟨(ad.add (i * 6)).block, (ad.add (i * 6)).off + 2, none⟩ = some (.int .i64 x.f2) ∧ w'.cell? ⟨(ad.add (i * 6)).block, (ad.add (i * 6)).off + 5, none⟩ = some (.slice A5 x.f5.length c5) := fun w' hb =>
          ⟨cell_far (Far.of_below (S := fun _ => False) hb) (fun h => h) q1, cell_far (Far.of_below (S := fun _ => False) hb) (fun h => h) q2, cell_far (Far.of_below (S := fun _ => False) hb) (fun h => h) q5⟩
        obtain ⟨r1, _, _⟩ := cells _ hbW
        replace cells := Aside0.mk cells
        have hA5 : Aside0 (∀ a5, A5 = some a5 → 0 < x.f5.length → a5.block < W.heap.size) := ⟨fun a5 e hp => Kd.C_lt (by rw [e] at hC5; exact hC5) hp (by decide)⟩
        have hT := take_any B0 a own F t B (wrap64 (1 + Int.tmod x.f1 3)) wr HR.out HD.out
        have hT2 := HD.out.take t (wrap64 (1 + Int.tmod x.f1 3))
        generalize tk own F t (wrap64 (1 + Int.tmod x.f1 3)) = r at hT hT2
        generalize (if r.b then over B (4096 * r.v.toNat) (List.replicate 4096 0) else B) = B4 at hT hT2
        have hG := HG.out
        rw [hG] at hT
        replace hT := Aside0.mk hT
        replace hT2 := Aside0.mk hT2
        replace hC5 := Aside0.mk hC5
        replace hdw := Aside0.mk hdw
        clear l5 q1 q2 q5 hG hbW
        go_upto_region 10 with (go_at_call 9; refine hT.out.mono ?_; rintro e w4 ⟨A2, c2, rfl, hr4, hf4, hk4⟩; replace hr4 := Aside0.mk hr4; replace hf4 := Aside0.mk hf4)
        have HB4 := Aside0.mk (far_low HB.out hf4.out HR.out.gt (fun k hk => (HR.out.own_lt k hk).1))
        have hb4 : Below w2.heap.size w2 w4 := by rw [← hB0.out]; exact HB4.out
        have hbW4 := Aside0.mk (below_step hW2.out hb4)
        have hg0 : g = (a.at A2 c2).g := HG.out.symm
        have hwr : ∀ m, Calls Try.prog 10 #[.pointer (some ⟨g, 0, none⟩), .int .i64 x.f1, .int .i64 x.f2, .slice A5 x.f5.length c5] (w4.drewN m) fun e w' => e = .returned (.bool (decide (pk r.own x.f1 x.f2 (x.f5.length : Int)))) ∧ Ram w' B0 (a.at A2 c2) r.own r.F r.t (wrB r.own B4 x.f1 x.f2 x.f5) ∧ Far (fun k => k = (a.at A2 c2).g ∨ k = (a.at A2 c2).b) (w4.drewN m) w' := by
          intro m
          rw [hg0]
          have hbm := pw_below_drewN (Below.refl w4.heap.size w4) m
          refine write_any B0 (a.at A2 c2) r.own r.F r.t B4 x.f1 x.f2 A5 c5 x.f5 (w4.drewN m) (hr4.out.below hbm) hT2.out (Kd.C_below hC5.out (below_step hbW4.out hbm)) (Nat.lt_of_le_of_lt hdw.out.2.2.2.2.2.1 (by decide)) (fun a5 e hp he => ?_)
          have h1 := hA5.out a5 e hp
          have h2 := (hr4.out.own_lt _ (.inl rfl)).1
          have h3 := hBW.out
          omega
        obtain ⟨ca, cb, cc⟩ := cells.out _ hbW4.out
        have hgd4 := Aside0.mk (hT2.out.wr x.f1 x.f2 x.f5 (isBytes.of_wf hdw.out.2.2.2.2.2.2))
        have ws := Aside0.mk (w64s i (by have := hl60.out; omega))
        have hgS := Aside0.mk hg0
        replace hwr := Aside0.mk hwr
        clear r1 hb4 hg0
        go_region_held3 (fun w' => w'.cell? ⟨(ad.add (i * 6)).block, (ad.add (i * 6)).off + 1, none⟩ = some (.int .i64 x.f1) ∧ w'.cell? ⟨(ad.add (i * 6)).block, (ad.add (i * 6)).off + 2, none⟩ = some (.int .i64 x.f2) ∧ w'.cell? ⟨(ad.add (i * 6)).block, (ad.add (i * 6)).off + 5, none⟩ = some (.slice A5 x.f5.length c5))
          (first | go_keep | (go_split_ands; refine ⟨?_, ?_, ?_⟩; (exact ca5); (exact cb5); (exact cc5)))
          (first | (go_at_call 10; refine (hwr.out _).mono ?_; rintro e w5 ⟨rfl, hr5, hf5⟩; have hb5 := Aside0.mk (far_low (pw_below_drewN HB4.out _) hf5 (Nat.le_trans hr4.out.gt (pw_below_drewN (Below.refl 0 w4) _).size) (fun k hk => by rcases hk with e | e; (rw [e]; exact (hr4.out.own_lt _ (.inl rfl)).1); (rw [e]; exact (hr4.out.own_lt _ (.inr (.inl rfl))).1))); obtain ⟨ca5, cb5, cc5⟩ := cells.out w5 (below_step hW2.out (by rw [← hB0.out]; exact hb5.out)); replace hr5 := Aside0.mk hr5; clear hf5))
        go_wp2
        go_roundg k
        case measure => omega
        case rel => exact ⟨i + 1, a.at A2 c2, r.own, r.F, r.t, _, by rw [ws.out], ⟨by have := HK.out; omega⟩, ⟨hgS.out.symm⟩, hr5, hgd4, hb5⟩

theorem keeps_walk (W : World) (A : Option Addr) (c : Nat) (ls : List S26) (hC : Kd.C k26 W A ls.length ls) (hc : ls.length ≤ c) (hm : ls.length ≤ maxLen) (hwf : ∀ x ∈ ls, DeedWf x) (a : Array Value) (y : S26) (hK : k26.K W y a.toList) (hR : DeedWf y) :
    Calls Try.prog 3 #[.slice A ls.length c, .agg a] W fun e w' => e = .returned (.bool true) ∧ Below W.heap.size W w' := by
  obtain ⟨dA, dc, e, hdc, hdC⟩ := k26_open hK
  obtain rfl : a = BoxD y dA dc := Array.ext' e
  exact keeps_law W A c ls hC hc hwf y dA dc hdC hdc hR

end Go.Proofs.Ytoejchlelamhjaa.Hand
