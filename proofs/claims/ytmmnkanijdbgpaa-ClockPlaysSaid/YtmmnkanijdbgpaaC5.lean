/- ClockBut, walked. -/
import Derived.Test.YtmmnkanijdbgpaaC4
import Derived.Deep.QuietTactic
import Derived.BigQuiet
namespace Go.Proofs.Ytmmnkanijdbgpaa.Hand
set_option linter.unusedVariables false
set_option linter.unusedSimpArgs false
open Go.RowKit Go.Proofs.Ytmmnkanijdbgpaa.R Go.Proofs.YtmmnkanijdbgpaaW.PrintWords Go.Proofs.YtmmnkanijdbgpaaW.PrintLast Go.Proofs.YtmmnkanijdbgpaaW.PrintMore

theorem int_at {w : World} {k : IntKind} {A : Option Addr} {xs : List Int} (hC : Kd.C (Kd.int k) w A xs.length xs) (j : Nat) (hj : j < xs.length) : ∃ ad, A = some ad ∧ ∀ W, Below w.heap.size w W → W.cell? (ad.add j) = some (.int k xs[j]) := by
  obtain ⟨ad, cs, eA, hc1, hc2, hc3⟩ := hC.get_ 0 (j : Int) (by omega) (by omega)
  have hk : cs = [.int k xs[j]] := by
    have : xs.getD (j : Int).toNat 0 = xs[j] := by simp [hj]
    rw [this] at hc2
    exact hc2
  subst hk
  have h := hc3 0 _ rfl
  have h' : w.cell? (ad.add j) = some (.int k xs[j]) := by simpa [Kd.int, Kd.scalar] using h
  have hb : (ad.add j).block < w.heap.size := World.block_lt_of_cell? w _ h'
  exact ⟨ad, eA, fun W hW => (hW.cell hb).trans h'⟩
def bytesN (l : List Int) : Prop := ∀ x ∈ l, 0 ≤ x ∧ x < 256
theorem bytesN.of_wf {l : List Int} (h : ∀ x ∈ l, (Lit.int .u8 x).wf = true) : bytesN l := by
  intro x hx
  have := bounds_u8 (h x hx)
  omega
def m96 (x : Int) : Int := ((x.toNat % 96 : Nat) : Int)
theorem contains_take (l : List Int) (q : Int) (i : Nat) (h : i < l.length) : (l.take (i + 1)).contains q = ((l.take i).contains q || (q == l[i])) := by
  rw [List.take_succ_eq_append_getElem h]
  induction l.take i with
  | nil => simp only [List.nil_append, List.contains_cons, List.contains_nil, Bool.or_false, Bool.false_or]
  | cons a r ih => rw [List.cons_append, List.contains_cons, List.contains_cons, ih, Bool.or_assoc]
theorem inC_zeros (f : Nat) (h : f < 96) : inC zeros (f : Int) = false := by
  unfold inC zeros
  rw [decide_eq_true (by omega), decide_eq_true (by omega), Int.toNat_natCast, List.getD_eq_getElem?_getD, List.getElem?_replicate]
  split <;> rfl
theorem row_far {w w' : World} {base g : Nat} {v : Value} {xs : List Int} (h : RI w base (fun _ => True) v xs) (hf : Far (fun k => k = g) w w') (hg : g < base) : RI w' base (fun _ => True) v xs :=
  Kd.R_mono (Kd.R_step (Kd.R_tight rfl h) (fun k hk hlt => hf.block k hlt (fun e => by have := Kd.R_base h k hk.symm; omega))) (fun _ _ => trivial)
/-- All frames that are in aren't asked. -/
def E (L out : List Int) : Prop := ∀ f : Nat, f < 96 → inC L (f : Int) = true → out.contains (f : Int) = true
theorem rnd_nil {L out : List Int} (h : E L out) (hd k : Nat) : rnd L out hd k = [] := by
  induction k with
  | zero => rfl
  | succ k ih =>
    rw [rnd_succ, ih]
    cases hi : inC L (((hd + k) % 96 : Nat) : Int) with
    | false => rfl
    | true =>
      rw [h _ (by omega) hi]
      rfl
theorem rnd_in (L out : List Int) (hd k : Nat) : ∀ y ∈ rnd L out hd k, inC L y = true ∧ out.contains y = false := by
  induction k with
  | zero => intro y hy; cases hy
  | succ k ih =>
    intro y hy
    rw [rnd_succ] at hy
    split at hy
    · rename_i hc
      rcases List.mem_append.1 hy with hy | hy
      · exact ih y hy
      · rw [List.mem_singleton.1 hy]
        simpa using hc
    · exact ih y hy
theorem rnd_has {L out : List Int} {f : Nat} (hi : inC L (f : Int) = true) (ho : out.contains (f : Int) = false) : ∀ k, f < k → k ≤ 96 → (f : Int) ∈ rnd L out 0 k := by
  intro k
  induction k with
  | zero => intro h; omega
  | succ k ih =>
    intro h1 h2
    rw [rnd_succ]
    by_cases e : f = k
    · subst e
      have e2 : (0 + f) % 96 = f := by omega
      rw [e2, hi, ho, if_pos (by decide)]
      simp
    · have := ih (by omega) (by omega)
      split
      · exact List.mem_append.2 (.inl this)
      · exact this
theorem rnd_ne {L out : List Int} (h : ¬ E L out) : rnd L out 0 96 ≠ [] := by
  intro e
  refine h fun f hf hi => ?_
  cases ho : out.contains (f : Int) with
  | true => rfl
  | false =>
    have := rnd_has hi ho 96 hf (Nat.le_refl _)
    rw [e] at this
    cases this
theorem E_zeros (out : List Int) : E zeros out := fun f hf hi => by
  rw [inC_zeros f hf] at hi
  cases hi
theorem getD_set (l : List Int) (i j : Nat) (v : Int) (h : i < l.length) : (l.set i v).getD j 0 = if j = i then v else l.getD j 0 := by
  by_cases e : j = i
  · subst e
    rw [if_pos rfl]
    simp [h]
  · rw [if_neg e]
    simp only [List.getD_eq_getElem?_getD]
    rw [List.getElem?_set_ne (fun h => e h.symm)]
theorem inC_nat (L : List Int) (f : Nat) (h : f < 96) : inC L (f : Int) = decide (0 < L.getD f 0) := by
  unfold inC
  rw [decide_eq_true (by omega), decide_eq_true (by omega), Int.toNat_natCast]
  rfl
theorem inC_add {L : List Int} (hL : L.length = 98) (f p : Nat) (hok : addOk L (f : Int) (p : Int) = true) (y : Nat) (hy : y < 96) (hf : f < 96) : inC (addL L (f : Int) (p : Int)) (y : Int) = (inC L (y : Int) || decide (y = f)) := by
  unfold addL
  rw [hok, if_pos rfl, inC_nat _ y hy, inC_nat _ y hy, Int.toNat_natCast, getD_set _ _ _ _ (by simp; omega), if_neg (by omega), getD_set _ _ _ _ (by omega)]
  by_cases e : y = f
  · rw [if_pos e, decide_eq_true (by omega), decide_eq_true e, Bool.or_true]
  · rw [if_neg e, decide_eq_false e, Bool.or_false]
theorem hand_add (L : List Int) (hL : L.length = 98) (f p : Int) : (addL L f p).getD 96 0 = L.getD 96 0 := by
  unfold addL
  split
  · rename_i hok
    have hf : 0 ≤ f ∧ f < 96 := by
      unfold addOk at hok
      have := (Bool.and_eq_true _ _ ▸ hok).1
      have := of_decide_eq_true this
      omega
    rw [getD_set _ _ _ _ (by simp; omega), if_neg (by omega), getD_set _ _ _ _ (by omega), if_neg (by omega)]
  · rfl

set_option maxHeartbeats 8000000 in
set_option maxRecDepth 100000 in
theorem but_law (A : Option Addr) (c : Nat) (fr : List Int) (A2 : Option Addr) (c2 : Nat) (bt : List Int) (w : World) (hC : Kd.C (Kd.int .u8) w A fr.length fr) (hc : fr.length ≤ c) (hC2 : Kd.C (Kd.int .u8) w A2 bt.length bt) (hc2 : bt.length ≤ c2) (hB : bytesN fr) (hB2 : bytesN bt) :
    Calls Try.prog 3 #[.slice A fr.length c, .slice A2 bt.length c2] w fun e w' => e = .returned (.bool true) ∧ Below w.heap.size w w' := by
  replace hC := Aside0.mk hC
  replace hc := Aside0.mk hc
  replace hC2 := Aside0.mk hC2
  replace hc2 := Aside0.mk hc2
  replace hB := Aside0.mk hB
  replace hB2 := Aside0.mk hB2
  by_cases h1 : fr.length > 96
  · have d1 : decide ((fr.length : Int) > 96) = true := decide_eq_true (by omega)
    have d2 : decide (96 < (fr.length : Int)) = true := decide_eq_true (by omega)
    have d3 : decide (96 < fr.length) = true := decide_eq_true (by omega)
    go_enter Try.func3, Try.ntmps3
    go_wp2_with (go_at_call 6; refine (lives_calls _).mono ?_; rintro e w7 ⟨rfl, b7⟩; replace b7 := Aside0.mk b7)
    go_returns
    exact ⟨rfl, b7.out⟩
  have d1 : decide ((fr.length : Int) > 96) = false := decide_eq_false (by omega)
  have d2 : decide (96 < (fr.length : Int)) = false := decide_eq_false (by omega)
  have d3 : decide (96 < fr.length) = false := decide_eq_false (by omega)
  by_cases h2 : bt.length > 96
  · have d4 : decide (96 < (bt.length : Int)) = true := decide_eq_true (by omega)
    have d5 : decide (96 < bt.length) = true := decide_eq_true (by omega)
    go_enter Try.func3, Try.ntmps3
    go_wp2_with (go_at_call 6; refine (lives_calls _).mono ?_; rintro e w7 ⟨rfl, b7⟩; replace b7 := Aside0.mk b7)
    go_returns
    exact ⟨rfl, b7.out⟩
  have d4 : decide (96 < (bt.length : Int)) = false := decide_eq_false (by omega)
  have d5 : decide (96 < bt.length) = false := decide_eq_false (by omega)
  replace h1 := Aside0.mk h1
  replace h2 := Aside0.mk h2
  go_enter Try.func3, Try.ntmps3
  go_upto_region 4 with (go_at_call 7; refine (new_calls _).mono ?_; rintro e w1 ⟨rfl, rfl⟩)
  have hb1 : CS (w.alloc (.cells (ints zeros) 51 (0, 0))) w.heap.size zeros := blk_new w _
  have hf1 : Far (fun k => k = w.heap.size) w (w.alloc (.cells (ints zeros) 51 (0, 0))) := Far.alloc (Far.refl _ _) _
  generalize w.alloc (.cells (ints zeros) 51 (0, 0)) = w1 at hb1 hf1 ⊢
  have hg1 := blk_lt hb1
  replace hb1 := Aside0.mk hb1
  replace hf1 := Aside0.mk hf1
  replace hg1 := Aside0.mk hg1
  go_wp2
  go_loopg [6, 8] bt.length (fun kq v6 v8 w' => ∃ (i : Nat) (A3 : Option Addr) (c3 : Nat) (F : List Int), v6 = .slice A3 F.length c3 ∧ v8 = .int .i64 (i : Int) ∧ Aside0 (i + kq = bt.length ∧ F = (bt.take i).map m96) ∧ Aside0 (RI w' w1.heap.size (fun _ => True) (.slice A3 F.length c3) F) ∧ Aside0 (Below w1.heap.size w1 w'))
  case atStart => exact ⟨0, none, 0, [], rfl, rfl, ⟨by omega, rfl⟩, ⟨Kd.R_nil _ _ _ _ _⟩, ⟨Below.refl _ _⟩⟩
  case round =>
    obtain ⟨i, A3, c3, F, rfl, rfl, HK, HR, HBL⟩ := hrel
    cases gk with
    | zero =>
      obtain rfl : i = bt.length := by have := HK.out; omega
      have e1 : decide (((bt.length : Nat) : Int) < ((bt.length : Nat) : Int)) = false := decide_eq_false (by omega)
      go_wp2
      have hcs0 := Aside0.mk (blk_below hb1.out HBL.out)
      have hf0 := Aside0.mk (hf1.out.then_ (Far.of_below HBL.out))
      have hFl : F.length ≤ 96 := by rw [HK.out.2, List.length_map, List.length_take]; have := h2.out; omega
      replace hFl := Aside0.mk hFl
      go_loopg [7, 9] fr.length (fun kq v7 v9 w' => ∃ (i n : Nat) (L : List Int), v7 = .int .i64 (n : Int) ∧ v9 = .int .i64 (i : Int) ∧ Aside0 (i + kq = fr.length ∧ n ≤ i) ∧ Aside0 (L.length = 98 ∧ L.getD 96 0 = 0 ∧ (n = 0 ↔ E L F)) ∧ Aside0 (CS w' w.heap.size L) ∧ Aside0 (RI w' w1.heap.size (fun _ => True) (.slice A3 F.length c3) F) ∧ Aside0 (Far (fun k => k = w.heap.size) w w'))
      case atStart => exact ⟨0, 0, zeros, rfl, rfl, ⟨by omega, Nat.le_refl _⟩, ⟨by decide, by decide +kernel, fun _ => E_zeros F, fun _ => rfl⟩, hcs0, HR, hf0⟩
      case round =>
        obtain ⟨i, n, L, rfl, rfl, HK2, HL, HC, HR2, HF2⟩ := hrel
        clear hcs0 hf0 HR HBL
        cases gk with
        | zero =>
          obtain rfl : i = fr.length := by have := HK2.out.1; omega
          have e1 : decide (((fr.length : Nat) : Int) < ((fr.length : Nat) : Int)) = false := decide_eq_false (by omega)
          have hH := Aside0.mk (hand_calls w.heap.size L HL.out.1 wr HC.out)
          rw [HL.out.2.1] at hH
          have hCF := Aside0.mk (Kd.R_reads' HR2.out).2.2
          have hcF := (Kd.R_reads' HR2.out).2.1
          have hin := Aside0.mk (rnd_in L F 0 96)
          have hmem := Aside0.mk (rnd_mem L F 0 96)
          by_cases hz : n = 0
          · have hE := HL.out.2.2.1 hz
            have hT := Aside0.mk (turn_none w.heap.size L HL.out.1 0 (by rw [HL.out.2.1]; rfl) (by omega) .nilFunc A3 c3 F wr HC.out hCF.out hcF (by have := hFl.out; omega) (rnd_nil hE 0 96))
            subst hz
            clear hE hcF
            go_upto_region 23 with (first | (go_at_call 9; refine hH.out.mono ?_; rintro e w5 ⟨rfl, rfl⟩) | (go_at_call 10; refine hT.out.mono ?_; rintro e w6 ⟨rfl, hb6⟩; replace hb6 := Aside0.mk hb6))
            have hH6 := Aside0.mk (hand_calls w.heap.size L HL.out.1 w6 (blk_below HC.out hb6.out))
            rw [HL.out.2.1] at hH6
            go_wp2_with (first | (go_at_call 9; refine hH6.out.mono ?_; rintro e w7 ⟨rfl, rfl⟩) | (go_at_call 6; refine (lives_calls _).mono ?_; rintro e w8 ⟨rfl, b8⟩; replace b8 := Aside0.mk b8))
            go_returns
            exact ⟨rfl, ((HF2.out.then_ (Far.of_below hb6.out)).then_ (Far.of_below b8.out)).below (Nat.le_refl _) (fun i h => by omega)⟩
          · have hE : ¬ E L F := fun h => hz (HL.out.2.2.2 h)
            obtain ⟨y, r, hyr⟩ : ∃ y r, rnd L F 0 96 = y :: r := by
              cases hr : rnd L F 0 96 with
              | nil => exact absurd hr (rnd_ne hE)
              | cons y r => exact ⟨y, r, rfl⟩
            obtain ⟨x, rfl, hx96⟩ := hmem.out y (by rw [hyr]; simp)
            have hxo := (hin.out (x : Int) (by rw [hyr]; simp)).2
            have hT := Aside0.mk (turn_nil w.heap.size L HL.out.1 0 (by rw [HL.out.2.1]; rfl) (by omega) A3 c3 F wr HC.out hCF.out hcF (by have := hFl.out; omega) x r hyr hx96)
            have hz1 : ((n : Int) == 0) = false := beq_eq_false_iff_ne.mpr (by omega)
            have hnx : ∀ j (hj : j < F.length), (F[j] == (x : Int)) = false := fun j hj => by
              refine beq_eq_false_iff_ne.mpr (fun e => ?_)
              have : F.contains (x : Int) = true := by rw [List.contains_iff_mem]; rw [← e]; exact List.getElem_mem hj
              rw [this] at hxo
              cases hxo
            replace hnx := Aside0.mk hnx
            clear hE hcF hyr hxo hz hin hmem
            go_upto_region 25 with (first | (go_at_call 9; refine hH.out.mono ?_; rintro e w5 ⟨rfl, rfl⟩) | (go_at_call 10; refine hT.out.mono ?_; rintro e w6 ⟨rfl, hc6, hf6⟩; replace hc6 := Aside0.mk hc6; replace hf6 := Aside0.mk hf6))
            have HR6 := Aside0.mk (row_far HR2.out hf6.out hg1.out)
            go_wp2
            go_loopg [16] F.length (fun kq v16 w' => ∃ (j : Nat), v16 = .int .i64 (j : Int) ∧ Aside0 (j + kq = F.length) ∧ Aside0 (CS w' w.heap.size (L.set 96 (((x + 1) % 96 : Nat) : Int))) ∧ Aside0 (RI w' w1.heap.size (fun _ => True) (.slice A3 F.length c3) F) ∧ Aside0 (Far (fun k => k = w.heap.size) w w'))
            case atStart => exact ⟨0, rfl, ⟨by omega⟩, hc6, HR6, ⟨HF2.out.then_ hf6.out⟩⟩
            case round =>
              obtain ⟨j, rfl, HK3, HC3, HR3, HF3⟩ := hrel
              clear hc6 HR6 hf6 hT
              cases gk with
              | zero =>
                obtain rfl : j = F.length := by have := HK3.out; omega
                have e4 : decide ((F.length : Int) < (F.length : Int)) = false := decide_eq_false (by omega)
                have hH6 := Aside0.mk (hand_calls w.heap.size (L.set 96 (((x + 1) % 96 : Nat) : Int)) (by rw [List.length_set]; exact HL.out.1) wr HC3.out)
                rw [getD_set _ _ _ _ (by have := HL.out.1; omega), if_pos rfl] at hH6
                have hm : Int.tmod ((x : Int) + 1) 96 = (((x + 1) % 96 : Nat) : Int) := by rw [Int.tmod_eq_emod_of_nonneg (by omega)]; omega
                generalize (x + 1) % 96 = z at hH6 hm
                go_wp2_with (first | (go_at_call 9; refine hH6.out.mono ?_; rintro e w7 ⟨rfl, rfl⟩) | (go_at_call 6; refine (lives_calls _).mono ?_; rintro e w8 ⟨rfl, b8⟩; replace b8 := Aside0.mk b8))
                go_returns
                exact ⟨rfl, (HF3.out.then_ (Far.of_below b8.out)).below (Nat.le_refl _) (fun i h => by omega)⟩
              | succ k3 =>
                have hj : j < F.length := by have := HK3.out; omega
                have e4 : decide ((j : Int) < (F.length : Int)) = true := decide_eq_true (by omega)
                have e5 : decide (j < F.length) = true := decide_eq_true hj
                have e6 : (0 : Int) ≤ (j : Int) := by omega
                have e7 : (j : Int) < (F.length : Int) := by omega
                have w1' := Aside0.mk (w64s j (by have := hFl.out; omega))
                have hjx : j < 1000 := by have := hFl.out; omega
                obtain ⟨ad3, c3', he3⟩ := Kd.R_slice1 HR3.out (by omega)
                injection he3 with he3 _ hcc
                subst he3
                subst hcc
                obtain ⟨b3, rfl⟩ := Kd.R_head HR3.out
                obtain ⟨kb, _⟩ := Kd.R_celln (0 : Int) HR3.out (j : Int) (by omega) (by omega)
                have e8 : rdOf (0 : Int) F (j : Int) = F[j] := by unfold rdOf; rw [Int.toNat_natCast, List.getD_eq_getElem?_getD, List.getElem?_eq_getElem hj]; rfl
                rw [e8, Int.toNat_natCast] at kb
                clear e8
                have hq := hnx.out j hj
                generalize F[j] = q at kb hq
                go_upto_region 28 with (fail)
                first | go_quiet (fail) | skip
                go_wp2
                go_roundg k3
                case measure => omega
                case rel => exact ⟨j + 1, by first | rw [w1'.out] | rfl, ⟨by have := HK3.out; omega⟩, by first | exact HC3 | exact ⟨blk_drewN HC3.out _⟩, by first | exact HR3 | exact ⟨Kd.R_drewN HR3.out _⟩, by first | exact HF3 | exact ⟨HF3.out.drewN _⟩⟩
        | succ k =>
          have hi : i < fr.length := by have := HK2.out.1; omega
          have hi96 : i < 96 := by have := h1.out; omega
          have e1 : decide ((i : Int) < (fr.length : Int)) = true := decide_eq_true (by omega)
          have e2 : decide (i < fr.length) = true := decide_eq_true hi
          have e3 : decide (0 ≤ (i : Int)) = true := decide_eq_true (by omega)
          obtain ⟨ad, rfl, hcell⟩ := int_at hC.out i hi
          have k0 := hcell _ (HF2.out.below (Nat.le_refl _) (fun i h => by omega))
          have hbb := hB.out fr[i] (List.getElem_mem hi)
          obtain ⟨x, hx⟩ : ∃ x : Nat, fr[i] = (x : Int) := ⟨fr[i].toNat, by omega⟩
          have hx256 : x < 256 := by omega
          rw [hx] at k0
          have hm : Int.tmod (x : Int) 96 = ((x % 96 : Nat) : Int) := by rw [Int.tmod_eq_emod_of_nonneg (by omega)]; omega
          have hxm : x % 96 < 96 := by omega
          obtain ⟨m, hmm⟩ : ∃ m, m = x % 96 := ⟨_, rfl⟩
          rw [← hmm] at hm hxm
          have ws := Aside0.mk (w64s i (by omega))
          have wn := Aside0.mk (w64s n (by have := HK2.out.2; omega))
          clear hx hbb hcell hmm
          go_wp2
          go_loopg [11, 12] F.length (fun kq v11 v12 w' => ∃ (j : Nat), v11 = .bool ((F.take j).contains (m : Int)) ∧ v12 = .int .i64 (j : Int) ∧ Aside0 (j + kq = F.length) ∧ Aside0 (CS w' w.heap.size L) ∧ Aside0 (RI w' w1.heap.size (fun _ => True) (.slice A3 F.length c3) F) ∧ Aside0 (Far (fun k => k = w.heap.size) w w'))
          case atStart => exact ⟨0, rfl, rfl, ⟨by omega⟩, HC, HR2, HF2⟩
          case round =>
            obtain ⟨j, rfl, rfl, HK3, HC3, HR3, HF3⟩ := hrel
            clear HC HR2 HF2
            cases gk with
            | zero =>
              obtain rfl : j = F.length := by have := HK3.out; omega
              have e4 : decide ((F.length : Int) < (F.length : Int)) = false := decide_eq_false (by omega)
              rw [List.take_length]
              have hadd := Aside0.mk (add_calls w.heap.size L HL.out.1 (m : Int) (i : Int) wr HC3.out)
              have hE := Aside0.mk (fun (h : addOk L (m : Int) (i : Int) = true) (y : Nat) (hy : y < 96) => inC_add HL.out.1 m i h y hy hxm)
              have hlen := addL_length L (m : Int) (i : Int)
              rw [HL.out.1] at hlen
              have hhand := hand_add L HL.out.1 (m : Int) (i : Int)
              rw [HL.out.2.1] at hhand
              replace hlen := Aside0.mk hlen
              replace hhand := Aside0.mk hhand
              cases hb : F.contains (m : Int) with
              | true =>
                cases hok : addOk L (m : Int) (i : Int) with
                | true =>
                  rw [hok] at hadd
                  have hiff : n = 0 ↔ E (addL L (m : Int) (i : Int)) F := by
                    rw [HL.out.2.2]
                    refine ⟨fun h y hy hi => ?_, fun h y hy hi => h y hy (by rw [hE.out hok y hy, hi]; rfl)⟩
                    rw [hE.out hok y hy] at hi
                    rcases Bool.or_eq_true _ _ ▸ hi with h' | h'
                    · exact h y hy h'
                    · rw [of_decide_eq_true h']; exact hb
                  replace hiff := Aside0.mk hiff
                  go_wp2_with (go_at_call 8; refine hadd.out.mono ?_; rintro e w5 ⟨rfl, hc5, hf5⟩; replace hc5 := Aside0.mk hc5; replace hf5 := Aside0.mk hf5)
                  go_roundg k
                  case measure => omega
                  case rel => exact ⟨i + 1, n, _, rfl, by first | rw [ws.out] | rfl, ⟨by have := HK2.out.1; omega, by have := HK2.out.2; omega⟩, ⟨hlen.out, hhand.out, hiff.out⟩, hc5, ⟨row_far HR3.out hf5.out hg1.out⟩, ⟨HF3.out.then_ hf5.out⟩⟩
                | false =>
                  rw [hok] at hadd
                  have hsame : addL L (m : Int) (i : Int) = L := by unfold addL; rw [hok]; rfl
                  rw [hsame] at hadd
                  clear hsame
                  go_wp2_with (go_at_call 8; refine hadd.out.mono ?_; rintro e w5 ⟨rfl, hc5, hf5⟩; replace hc5 := Aside0.mk hc5; replace hf5 := Aside0.mk hf5)
                  go_roundg k
                  case measure => omega
                  case rel => exact ⟨i + 1, n, _, rfl, by first | rw [ws.out] | rfl, ⟨by have := HK2.out.1; omega, by have := HK2.out.2; omega⟩, HL, hc5, ⟨row_far HR3.out hf5.out hg1.out⟩, ⟨HF3.out.then_ hf5.out⟩⟩
              | false =>
                cases hok : addOk L (m : Int) (i : Int) with
                | true =>
                  rw [hok] at hadd
                  have hiff : n + 1 = 0 ↔ E (addL L (m : Int) (i : Int)) F := by
                    refine ⟨fun h => by omega, fun h => ?_⟩
                    have := h m hxm (by rw [hE.out hok m hxm, decide_eq_true rfl, Bool.or_true])
                    rw [hb] at this
                    cases this
                  replace hiff := Aside0.mk hiff
                  go_wp2_with (go_at_call 8; refine hadd.out.mono ?_; rintro e w5 ⟨rfl, hc5, hf5⟩; replace hc5 := Aside0.mk hc5; replace hf5 := Aside0.mk hf5)
                  go_roundg k
                  case measure => omega
                  case rel => exact ⟨i + 1, n + 1, _, by first | rw [wn.out] | rfl, by first | rw [ws.out] | rfl, ⟨by have := HK2.out.1; omega, by have := HK2.out.2; omega⟩, ⟨hlen.out, hhand.out, hiff.out⟩, hc5, ⟨row_far HR3.out hf5.out hg1.out⟩, ⟨HF3.out.then_ hf5.out⟩⟩
                | false =>
                  rw [hok] at hadd
                  have hsame : addL L (m : Int) (i : Int) = L := by unfold addL; rw [hok]; rfl
                  rw [hsame] at hadd
                  clear hsame
                  go_wp2_with (go_at_call 8; refine hadd.out.mono ?_; rintro e w5 ⟨rfl, hc5, hf5⟩; replace hc5 := Aside0.mk hc5; replace hf5 := Aside0.mk hf5)
                  go_roundg k
                  case measure => omega
                  case rel => exact ⟨i + 1, n, _, rfl, by first | rw [ws.out] | rfl, ⟨by have := HK2.out.1; omega, by have := HK2.out.2; omega⟩, HL, hc5, ⟨row_far HR3.out hf5.out hg1.out⟩, ⟨HF3.out.then_ hf5.out⟩⟩
            | succ k3 =>
              have hj : j < F.length := by have := HK3.out; omega
              have e4 : decide ((j : Int) < (F.length : Int)) = true := decide_eq_true (by omega)
              have e5 : decide (j < F.length) = true := decide_eq_true hj
              have e6 : (0 : Int) ≤ (j : Int) := by omega
              have e7 : (j : Int) < (F.length : Int) := by omega
              have w1' := Aside0.mk (w64s j (by have := hFl.out; omega))
              have hct := Aside0.mk (contains_take F (m : Int) j hj)
              have hjx : j < 1000 := by have := hFl.out; omega
              obtain ⟨ad3, c3', he3⟩ := Kd.R_slice1 HR3.out (by omega)
              injection he3 with he3 _ hcc
              subst he3
              subst hcc
              obtain ⟨b3, rfl⟩ := Kd.R_head HR3.out
              obtain ⟨kb, _⟩ := Kd.R_celln (0 : Int) HR3.out (j : Int) (by omega) (by omega)
              have e8 : rdOf (0 : Int) F (j : Int) = F[j] := by unfold rdOf; rw [Int.toNat_natCast, List.getD_eq_getElem?_getD, List.getElem?_eq_getElem hj]; rfl
              rw [e8, Int.toNat_natCast] at kb
              clear e8
              have hsym : (F[j] == (m : Int)) = ((m : Int) == F[j]) := by rw [Bool.eq_iff_iff, beq_iff_eq, beq_iff_eq]; exact eq_comm
              replace hsym := Aside0.mk hsym
              cases hb : (F.take j).contains (m : Int) with
              | true =>
                rw [hb] at hct
                go_upto_region 18 with (fail)
                first | go_quiet (fail) | skip
                go_wp2
                go_roundg k3
                case measure => omega
                case rel => exact ⟨j + 1, by rw [hct.out]; rfl, by first | rw [w1'.out] | rfl, ⟨by have := HK3.out; omega⟩, by first | exact HC3 | exact ⟨blk_drewN HC3.out _⟩, by first | exact HR3 | exact ⟨Kd.R_drewN HR3.out _⟩, by first | exact HF3 | exact ⟨HF3.out.drewN _⟩⟩
              | false =>
                rw [hb] at hct
                go_upto_region 18 with (fail)
                first | go_quiet (fail) | skip
                go_wp2
                go_roundg k3
                case measure => omega
                case rel => exact ⟨j + 1, by rw [hct.out, Bool.false_or, ← hsym.out], by first | rw [w1'.out] | rfl, ⟨by have := HK3.out; omega⟩, by first | exact HC3 | exact ⟨blk_drewN HC3.out _⟩, by first | exact HR3 | exact ⟨Kd.R_drewN HR3.out _⟩, by first | exact HF3 | exact ⟨HF3.out.drewN _⟩⟩
    | succ k =>
      have hi : i < bt.length := by have := HK.out.1; omega
      have e1 : decide ((i : Int) < (bt.length : Int)) = true := decide_eq_true (by omega)
      have e2 : decide (i < bt.length) = true := decide_eq_true hi
      have e3 : decide (0 ≤ (i : Int)) = true := decide_eq_true (by omega)
      obtain ⟨ad, rfl, hcell⟩ := int_at hC2.out i hi
      have hbw := (hf1.out.then_ (Far.of_below HBL.out)).below (Nat.le_refl _) (fun i h => by omega)
      have k0 := hcell _ hbw
      have hbb := hB2.out bt[i] (List.getElem_mem hi)
      obtain ⟨x, hx⟩ : ∃ x : Nat, bt[i] = (x : Int) := ⟨bt[i].toNat, by omega⟩
      have hx256 : x < 256 := by omega
      have hF1 : F ++ [((x % 96 : Nat) : Int)] = (bt.take (i + 1)).map m96 := by
        rw [List.take_succ_eq_append_getElem hi, List.map_append, HK.out.2, hx]
        rfl
      rw [hx] at k0
      have hm : Int.tmod (x : Int) 96 = ((x % 96 : Nat) : Int) := by rw [Int.tmod_eq_emod_of_nonneg (by omega)]; omega
      have hxm : x % 96 < 96 := by omega
      obtain ⟨m, hmm⟩ : ∃ m, m = x % 96 := ⟨_, rfl⟩
      rw [← hmm] at hm hF1 hxm
      have ws := Aside0.mk (w64s i (by have := h2.out; omega))
      have hal : (F.length + 1) * 8 ≤ 140737488355328 := by have := h2.out; rw [HK.out.2, List.length_map, List.length_take]; omega
      replace hal := Aside0.mk hal
      replace hF1 := Aside0.mk hF1
      clear hx hbb hbw hcell hmm
      go_wp2_with (first | ((with_reducible refine gate_builtin (b := .append) (xs := #[.tmp 33, .tmp 40]) rfl ?_); at_builtin; refine Kd.R_append (Kd.int .i64) (w0 := w1) w1.heap.size rfl (.tmp 33) (.tmp 40) 26 3 (.int .i64 0) 8 rfl Try.underlying26 info3 rfl (by decide) (by omega) (.slice A3 F.length c3) F (m : Int) [.int .i64 (m : Int)] (fun _ => True) (fun _ => False) rfl rfl ?aP (fun _ hk => hk.elim) ?aF ?aO ?aB ?aS ?aL ?_; (case aP => exact rfl); (case aB => exact HBL.out); (case aF => exact (fun _ _ => trivial)); (case aO => exact HR.out); (case aS => exact HBL.out.size); (case aL => exact hal.out); intro v4 w4 ho hb4 hg hat; obtain ⟨A4, c4, e4⟩ := Kd.R_slice ho; subst e4; have HR4 := Aside0.mk ho; have HB4 := Aside0.mk hb4; clear ho hb4 hg hat))
      go_roundg k
      case measure => omega
      case rel => exact ⟨i + 1, A4, c4, F ++ [(m : Int)], by first | rfl | simp, by first | rw [ws.out] | rfl, ⟨by have := HK.out.1; omega, hF1.out⟩, HR4, HB4⟩

theorem but_walk (W : World) (A : Option Addr) (c : Nat) (fr : List Int) (hC : Kd.C (Kd.int .u8) W A fr.length fr) (hle : fr.length ≤ c) (hm : fr.length ≤ maxLen) (hR : ∀ x ∈ fr, (Lit.int .u8 x).wf = true)
    (A2 : Option Addr) (c2 : Nat) (bt : List Int) (hC2 : Kd.C (Kd.int .u8) W A2 bt.length bt) (hle2 : bt.length ≤ c2) (hm2 : bt.length ≤ maxLen) (hR2 : ∀ x ∈ bt, (Lit.int .u8 x).wf = true) :
    Calls Try.prog 3 #[.slice A fr.length c, .slice A2 bt.length c2] W fun e w' => e = .returned (.bool true) ∧ Below W.heap.size W w' :=
  but_law A c fr A2 c2 bt W hC hle hC2 hle2 (bytesN.of_wf hR) (bytesN.of_wf hR2)

end Go.Proofs.Ytmmnkanijdbgpaa.Hand
