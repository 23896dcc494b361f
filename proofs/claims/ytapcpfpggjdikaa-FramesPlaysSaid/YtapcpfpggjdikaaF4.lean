/- FramesCount, walked. -/
import Derived.Test.YtapcpfpggjdikaaF3
import Derived.Test.YtapcpfpggjdikaaOpens
namespace Go.Proofs.Ytapcpfpggjdikaa.Hand
set_option linter.unusedVariables false
set_option linter.unusedSimpArgs false
open Go.RowKit Go.Proofs.Ytapcpfpggjdikaa.R Go.Proofs.YtapcpfpggjdikaaW.PrintWords Go.Proofs.YtapcpfpggjdikaaW.PrintLast Go.Proofs.YtapcpfpggjdikaaW.PrintMore

/-- A deed. -/
def kD : Kd (Int × Int) := Kd.pair (Kd.int .i64) (Kd.int .i64)
theorem o30 : Opens.Opens Try.prog kD 30 (fun _ => True) := by
  have h := Opens.opens_struct Try.underlying30 (by kernel_rfl) (Opens.opensF_cons rfl (Opens.opens_int Try.underlying3 (by kernel_rfl)) (Opens.opensF_one rfl (Opens.opens_int Try.underlying3 (by kernel_rfl))))
  exact ⟨h.1, fun enc w base spare held fuel cs x hx => by
    obtain ⟨y, h1, _⟩ := h.2 enc w base spare held fuel cs x hx
    exact ⟨y, h1, trivial⟩⟩
theorem deed_at {w : World} {A : Option Addr} {l : List (Int × Int)} (hC : Kd.C kD w A l.length l) (i : Nat) (hi : i < l.length) :
    ∃ ad, A = some ad ∧ ∀ W, Below w.heap.size w W → W.cell? (ad.add (i * 2)) = some (.int .i64 l[i].1) ∧ W.cell? ⟨(ad.add (i * 2)).block, (ad.add (i * 2)).off + 1, none⟩ = some (.int .i64 l[i].2) := by
  obtain ⟨ad, c, e, _, hK, hc0⟩ := Kd.C_get hC (0, 0) (i : Int) (by omega) (by omega)
  have hc : ∀ j u, c[j]? = some u → w.cell? (ad.add (i * 2 + j)) = some u := hc0
  have e2 : l.getD (i : Int).toNat (0, 0) = l[i] := by simp [hi]
  rw [e2] at hK
  obtain ⟨q1, q2, h1, h2, h3⟩ := hK
  have h3' : q1 = [.int .i64 l[i].1] := h2
  have h4' : q2 = [.int .i64 l[i].2] := h3
  subst h3' h4'
  subst h1
  have k0 := hc 0 _ rfl
  have k1 := hc 1 _ rfl
  rw [add_field _ _ 1 (by omega)] at k1
  rw [Nat.add_zero] at k0
  have hb : (ad.add (i * 2)).block < w.heap.size := World.block_lt_of_cell? w _ k0
  exact ⟨ad, e, fun W hW => ⟨(hW.cell hb).trans k0, (hW.cell (p := ⟨_, _, none⟩) hb).trans k1⟩⟩
theorem int_at {w : World} {k : IntKind} {A : Option Addr} {xs : List Int} (hC : Kd.C (Kd.int k) w A xs.length xs) (j : Nat) (hj : j < xs.length) : ∃ ad, A = some ad ∧ ∀ W, Below w.heap.size w W → W.cell? (ad.add j) = some (.int k xs[j]) := by
  obtain ⟨ad, cs, eA, hc1, hc2, hc3⟩ := hC.get_ 0 (j : Int) (by omega) (by omega)
  have hk : cs = [.int k xs[j]] := by
    have : xs.getD (j : Int).toNat 0 = xs[j] := by simp [hj]
    rw [this] at hc2
    exact hc2
  subst hk
  have h := hc3 0 _ rfl
  have h' : w.cell? (ad.add j) = some (.int k xs[j]) := by simpa [Kd.int, Kd.scalar] using h
  have hb : (ad.add j).block < w.heap.size := World.block_lt_of_cell? w _ h'
  exact ⟨ad, eA, fun W hW => (hW.cell hb).trans h'⟩

theorem contains_take (l : List Int) (q : Int) (i : Nat) (h : i < l.length) : (l.take (i + 1)).contains q = ((l.take i).contains q || (q == l[i])) := by
  rw [List.take_succ_eq_append_getElem h]
  induction l.take i with
  | nil => simp only [List.nil_append, List.contains_cons, List.contains_nil, Bool.or_false, Bool.false_or]
  | cons a r ih => rw [List.cons_append, List.contains_cons, List.contains_cons, ih, Bool.or_assoc]
theorem OK.more {own F : List Int} {n f : Nat} (h : OK own F n f) (hf : f + 1 < 1000000) : OK own F n (f + 1) := ⟨h.len, h.lim, Nat.le_succ_of_le h.most, hf, h.are⟩

set_option maxHeartbeats 8000000 in
set_option maxRecDepth 100000 in
theorem count_law (A : Option Addr) (c : Nat) (l : List (Int × Int)) (A2 : Option Addr) (c2 : Nat) (ow : List Int) (w : World) (hC : Kd.C kD w A l.length l) (hc : l.length ≤ c) (hC2 : Kd.C (Kd.int .i64) w A2 ow.length ow) (hc2 : ow.length ≤ c2) :
    Calls Try.prog 4 #[.slice A l.length c, .slice A2 ow.length c2] w fun e w' => e = .returned (.bool true) ∧ Below w.heap.size w w' := by
  replace hC := Aside0.mk hC
  replace hC2 := Aside0.mk hC2
  replace hc := Aside0.mk hc
  replace hc2 := Aside0.mk hc2
  by_cases h2 : l.length > 200
  · have d1 : decide ((l.length : Int) > 200) = true := decide_eq_true (by omega)
    have d2 : decide (200 < (l.length : Int)) = true := decide_eq_true (by omega)
    have d3 : decide (200 < l.length) = true := decide_eq_true (by omega)
    go_enter Try.func4, Try.ntmps4
    go_wp2_with (go_at_call 6; refine (lives_calls _).mono ?_; rintro e w7 ⟨rfl, b7⟩; replace b7 := Aside0.mk b7)
    go_returns
    exact ⟨rfl, b7.out⟩
  by_cases h5 : ow.length > 50
  · have d1 : decide ((l.length : Int) > 200) = false := decide_eq_false (by omega)
    have d2 : decide (200 < (l.length : Int)) = false := decide_eq_false (by omega)
    have d3 : decide (200 < l.length) = false := decide_eq_false (by omega)
    have d4 : decide (50 < (ow.length : Int)) = true := decide_eq_true (by omega)
    have d5 : decide (50 < ow.length) = true := decide_eq_true (by omega)
    go_enter Try.func4, Try.ntmps4
    go_wp2_with (go_at_call 6; refine (lives_calls _).mono ?_; rintro e w7 ⟨rfl, b7⟩; replace b7 := Aside0.mk b7)
    go_returns
    exact ⟨rfl, b7.out⟩
  have d1 : decide ((l.length : Int) > 200) = false := decide_eq_false (by omega)
  have d2 : decide (200 < (l.length : Int)) = false := decide_eq_false (by omega)
  have d3 : decide (200 < l.length) = false := decide_eq_false (by omega)
  have d4 : decide (50 < (ow.length : Int)) = false := decide_eq_false (by omega)
  have d5 : decide (50 < ow.length) = false := decide_eq_false (by omega)
  replace h2 := Aside0.mk h2
  replace h5 := Aside0.mk h5
  go_enter Try.func4, Try.ntmps4
  go_wp2_with (first | (go_at_call 7; refine (new_calls 16 (by omega) (by omega) _).mono ?_; rintro e w1 ⟨g, o, c0, A1, c1, rfl, hs, hb⟩; replace hs := Aside0.mk hs; replace hb := Aside0.mk hb))
  go_loopg [7] l.length (fun kq v7 w' => ∃ (i : Nat) (own F : List Int) (t : Int) (A1 : Option Addr) (c1 : Nat), v7 = .int .i64 (i : Int) ∧ Aside0 (i + kq = l.length) ∧ Aside0 (FS w' w.heap.size g own F t o c0 A1 c1) ∧ Aside0 (OK own F 16 (16 + i)) ∧ Aside0 (Below w.heap.size w w'))
  case atStart => exact ⟨0, _, _, _, _, _, rfl, ⟨by omega⟩, hs, ⟨OK.new 16 (by omega)⟩, hb⟩
  case round =>
    obtain ⟨i, own, F, t, A3, c3, rfl, HK, HS, HO, HB⟩ := hrel
    clear hs hb
    cases gk with
    | zero =>
      obtain rfl : i = l.length := by have := HK.out; omega
      have e1 : decide (((l.length : Nat) : Int) < ((l.length : Nat) : Int)) = false := decide_eq_false (by omega)
      go_wp2
      have h16 := HO.out.len
      go_loopg [8, 9] 16 (fun kq v8 v9 w' => ∃ (n : Nat), v8 = .int .i64 ((cnt own ow n : Nat) : Int) ∧ v9 = .int .i64 (n : Int) ∧ Aside0 (n + kq = 16) ∧ Aside0 (FS w' w.heap.size g own F t o c0 A3 c3) ∧ Aside0 (Below w.heap.size w w'))
      case atStart => exact ⟨0, rfl, rfl, ⟨by omega⟩, HS, HB⟩
      case round =>
        obtain ⟨n, rfl, rfl, HK2, HS2, HB2⟩ := hrel
        clear HS HB
        cases gk with
        | zero =>
          obtain rfl : n = 16 := by have := HK2.out; omega
          have e2 : decide (((16 : Nat) : Int) < 16) = false := by decide
          have hcc := Aside0.mk (count_calls w.heap.size g own F t o c0 A3 c3 A2 c2 ow _ HS2.out (by omega) (Kd.C_below hC2.out HB2.out) hc2.out (by have := h5.out; omega) (fun ad hA h0 => by have h1 := hC2.out; rw [hA] at h1; have h2 := Kd.C_lt h1 h0 (by decide); have h3 := HS2.out.ge; omega))
          go_wp2_with (first | (go_at_call 10; refine hcc.out.mono ?_; rintro e w5 ⟨rfl, b5⟩; rw [h16]; replace b5 := Aside0.mk b5) | (go_at_call 6; refine (lives_calls _).mono ?_; rintro e w7 ⟨rfl, b7⟩; replace b7 := Aside0.mk b7))
          go_returns
          have B5 := (Only.of_below b5.out HS2.out.gt)
          exact ⟨rfl, (HB2.out.trans B5.below).trans (Only.of_below b7.out B5.ge2).below⟩
        | succ k =>
          have hn : n < own.length := by have := HK2.out; omega
          have e2 : decide ((n : Int) < 16) = true := decide_eq_true (by omega)
          have e3 : decide (n < 16) = true := decide_eq_true (by omega)
          obtain ⟨q, hq⟩ : ∃ q, q = own[n] := ⟨_, rfl⟩
          have hoq : ownerOf own (n : Int) = q := by unfold ownerOf; rw [if_pos (by omega), hq]; simp [hn]
          have hcs := cnt_succ own ow n hn
          rw [← hq] at hcs
          replace hoq := Aside0.mk hoq
          replace hcs := Aside0.mk hcs
          go_wp2
          go_loopg [10, 11] ow.length (fun kq v10 v11 w' => ∃ (i : Nat), v10 = .bool ((ow.take i).contains q) ∧ v11 = .int .i64 (i : Int) ∧ Aside0 (i + kq = ow.length) ∧ Aside0 (FS w' w.heap.size g own F t o c0 A3 c3) ∧ Aside0 (Below w.heap.size w w'))
          case atStart => exact ⟨0, rfl, rfl, ⟨by omega⟩, HS2, HB2⟩
          case round =>
            obtain ⟨i, rfl, rfl, HK3, HS3, HB3⟩ := hrel
            clear HS2 HB2
            cases gk with
            | zero =>
              obtain rfl : i = ow.length := by have := HK3.out; omega
              have e4 : decide ((ow.length : Int) < (ow.length : Int)) = false := decide_eq_false (by omega)
              rw [List.take_length]
              have w1 := Aside0.mk (w64s n (by omega))
              have w2 := Aside0.mk (w64s (cnt own ow n) (by have := cnt_le own ow n; omega))
              cases hb : ow.contains q with
              | true =>
                rw [hb] at hcs
                go_wp2
                go_roundg k
                case measure => omega
                case rel => exact ⟨n + 1, by first | (rw [w2.out, hcs.out]; rfl) | (rw [hcs.out]; rfl) | (rw [hcs.out]; simp), by first | rw [w1.out] | rfl | simp, ⟨by have := HK2.out; omega⟩, HS3, HB3⟩
              | false =>
                rw [hb] at hcs
                go_wp2
                go_roundg k
                case measure => omega
                case rel => exact ⟨n + 1, by rw [hcs.out]; rfl, by first | rw [w1.out] | rfl | simp, ⟨by have := HK2.out; omega⟩, HS3, HB3⟩
            | succ k3 =>
              have hi : i < ow.length := by have := HK3.out; omega
              have e4 : decide ((i : Int) < (ow.length : Int)) = true := decide_eq_true (by omega)
              have e5 : decide (i < ow.length) = true := decide_eq_true hi
              have e6 : decide (0 ≤ (i : Int)) = true := decide_eq_true (by omega)
              have w1 := Aside0.mk (w64s i (by have := h5.out; omega))
              have hct := Aside0.mk (contains_take ow q i hi)
              obtain ⟨ad2, hA2, hcell⟩ := int_at hC2.out i hi
              subst hA2
              cases hb : (ow.take i).contains q with
              | true =>
                rw [hb] at hct
                go_upto_region 20 with (fail)
                go_quiet (fail)
                go_wp2
                go_roundg k3
                case measure => omega
                case rel => exact ⟨i + 1, by rw [hct.out]; first | rfl | (rw [Bool.false_or, hq]), by first | rw [w1.out] | rfl | simp, ⟨by have := HK3.out; omega⟩, ⟨HS3.out.drewN _⟩, ⟨pw_below_drewN HB3.out _⟩⟩
              | false =>
                rw [hb] at hct
                have k0 := hcell _ HB3.out
                have hq11 : ∀ m, Calls Try.prog 11 #[.pointer (some ⟨g, 0, none⟩), .int .i64 (n : Int)] (wr.drewN m) fun e w' => e = .returned (.int .i64 q) ∧ w' = wr.drewN m := fun m => (owner_q w.heap.size g own F t o c0 A3 c3 (n : Int) _ (HS3.out.drewN m)).mono fun e w' ⟨h1, h2⟩ => ⟨by rw [h1, hoq.out], h2⟩
                replace hq11 := Aside0.mk hq11
                go_upto_region 20 with (fail)
                go_quiet ((go_at_call 11; exact Calls.quiet_of_same (hq11.out _)))
                go_wp2
                go_roundg k3
                case measure => omega
                case rel => exact ⟨i + 1, by rw [hct.out]; first | rfl | (rw [Bool.false_or, hq]), by first | rw [w1.out] | rfl | simp, ⟨by have := HK3.out; omega⟩, ⟨HS3.out.drewN _⟩, ⟨pw_below_drewN HB3.out _⟩⟩
    | succ k =>
      have hi : i < l.length := by have := HK.out; omega
      have e1 : decide ((i : Int) < (l.length : Int)) = true := decide_eq_true (by omega)
      have e2 : decide (i < l.length) = true := decide_eq_true hi
      have e3 : decide (0 ≤ (i : Int)) = true := decide_eq_true (by omega)
      obtain ⟨ad, rfl, hcell⟩ := deed_at hC.out i hi
      obtain ⟨k0, k1⟩ := hcell wr HB.out
      have ws := Aside0.mk (w64s i (by have := h2.out; omega))
      have hi6 : 16 + i + 1 < 1000000 := by have := h2.out; omega
      replace hi6 := Aside0.mk hi6
      by_cases hn : l[i].1 ≥ 0
      · have e4 : decide (l[i].1 ≥ 0) = true := decide_eq_true hn
        have e5 : decide (0 ≤ l[i].1) = true := decide_eq_true hn
        go_wp2_with (first | (go_at_call 8; refine (give_calls w.heap.size g own F t o c0 A3 c3 l[i].1 _ HS.out HO.out _ rfl).mono ?_; rintro e w3 ⟨A4, c4, rfl, hs3, hO3⟩; replace hs3 := Aside0.mk hs3; replace hO3 := Aside0.mk (HB.out.trans hO3.below)))
        go_roundg k
        case measure => omega
        case rel => exact ⟨i + 1, _, _, _, _, _, by rw [ws.out], ⟨by have := HK.out; omega⟩, hs3, ⟨HO.out.gv hi6.out t l[i].1⟩, hO3⟩
      · have e4 : decide (l[i].1 ≥ 0) = false := decide_eq_false hn
        have e5 : decide (0 ≤ l[i].1) = false := decide_eq_false hn
        go_wp2_with (first | (go_at_call 9; refine (take_calls w.heap.size g own F t o c0 A3 c3 l[i].2 _ HS.out HO.out _ rfl).mono ?_; rintro e w3 ⟨A4, c4, rfl, hs3, hO3⟩; replace hs3 := Aside0.mk hs3; replace hO3 := Aside0.mk (HB.out.trans hO3.below)))
        go_roundg k
        case measure => omega
        case rel => exact ⟨i + 1, _, _, _, _, _, by rw [ws.out], ⟨by have := HK.out; omega⟩, hs3, ⟨(HO.out.tk t l[i].2).more hi6.out⟩, hO3⟩

theorem count_walk (W : World) (A : Option Addr) (c : Nat) (l : List (Int × Int)) (hC : Kd.C kD W A l.length l) (hle : l.length ≤ c) (hm : l.length ≤ maxLen) (hR : ∀ x ∈ l, True)
    (A2 : Option Addr) (c2 : Nat) (ow : List Int) (hC2 : Kd.C (Kd.int .i64) W A2 ow.length ow) (hle2 : ow.length ≤ c2) (hm2 : ow.length ≤ maxLen) (hR2 : ∀ x ∈ ow, (Lit.int .i64 x).wf = true) :
    Calls Try.prog 4 #[.slice A l.length c, .slice A2 ow.length c2] W fun e w' => e = .returned (.bool true) ∧ Below W.heap.size W w' :=
  count_law A c l A2 c2 ow W hC hle hC2 hle2

end Go.Proofs.Ytapcpfpggjdikaa.Hand
