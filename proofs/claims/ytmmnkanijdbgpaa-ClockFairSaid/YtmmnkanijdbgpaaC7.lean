/- ClockFair, walked. -/
import Derived.Test.YtmmnkanijdbgpaaC6
import Derived.Deep.DeepCutAuto
namespace Go.Proofs.Ytmmnkanijdbgpaa.Hand
set_option linter.unusedVariables false
set_option linter.unusedSimpArgs false
open Go.RowKit Go.Proofs.Ytmmnkanijdbgpaa.R Go.Proofs.YtmmnkanijdbgpaaW.PrintWords Go.Proofs.YtmmnkanijdbgpaaW.PrintLast Go.Proofs.YtmmnkanijdbgpaaW.PrintMore

def bls (B : List Bool) : Array Value := (B.map Value.bool).toArray
theorem bls_cell {w : World} {g : Nat} {B : List Bool} (hb : w.heap[g]? = some (.cells (bls B) 33 (0, 0))) (o : Nat) (ho : o < B.length) : w.cell? ⟨g, o, none⟩ = some (.bool (B.getD o false)) := by
  rw [blk_cell hb]
  unfold bls
  simp [ho]
theorem bls_set {w : World} {g : Nat} {B : List Bool} (hb : w.heap[g]? = some (.cells (bls B) 33 (0, 0))) (o : Nat) (q : Bool) : (w.setCell ⟨g, o, none⟩ (.bool q)).heap[g]? = some (.cells (bls (B.set o q)) 33 (0, 0)) := by
  refine blk_put hb o (.bool q) ?_
  unfold bls
  simp
/-- Who was told, where all below h were. -/
def seenB (L : List Int) (h : Nat) : List Bool := (List.range 96).map fun (f : Nat) => inC L (f : Int) && decide (f < h)
theorem seenB_length (L : List Int) (h : Nat) : (seenB L h).length = 96 := by simp [seenB]
theorem seenB_at (L : List Int) (h f : Nat) (hf : f < 96) : (seenB L h).getD f false = (inC L (f : Int) && decide (f < h)) := by
  unfold seenB
  simp [hf]
theorem list_ext96 {a b : List Bool} (ha : a.length = 96) (hb : b.length = 96) (h : ∀ f, f < 96 → a.getD f false = b.getD f false) : a = b := by
  refine List.ext_getElem (by omega) (fun f h1 h2 => ?_)
  have := h f (by omega)
  simpa [h1, h2] using this
theorem seenB_zero (L : List Int) : seenB L 0 = List.replicate 96 false := by
  refine list_ext96 (seenB_length _ _) (by simp) (fun f hf => ?_)
  rw [seenB_at L 0 f hf, decide_eq_false (by omega), Bool.and_false, List.getD_eq_getElem?_getD, List.getElem?_replicate]
  split <;> rfl
theorem getDb_set (l : List Bool) (i j : Nat) (v : Bool) (h : i < l.length) : (l.set i v).getD j false = if j = i then v else l.getD j false := by
  by_cases e : j = i
  · subst e
    rw [if_pos rfl]
    simp [h]
  · rw [if_neg e]
    simp only [List.getD_eq_getElem?_getD]
    rw [List.getElem?_set_ne (fun h => e h.symm)]
theorem seenB_step {L : List Int} (hL : L.length = 98) (h x : Nat) (hx : x < 96) (hh : h ≤ x) (hi : inC L (x : Int) = true) (hc : cin L (x + 1) = cin L h + 1) (v : Int) : (seenB L h).set x true = seenB (L.set 96 v) (x + 1) := by
  refine list_ext96 (by rw [List.length_set]; exact seenB_length _ _) (seenB_length _ _) (fun f hf => ?_)
  rw [getDb_set _ _ _ _ (by rw [seenB_length]; exact hx), seenB_at _ _ f hf, seenB_at _ _ f hf, inC_set L v f hf hL]
  by_cases e : f = x
  · subst e
    rw [if_pos rfl, hi, decide_eq_true (by omega)]
    rfl
  · rw [if_neg e]
    cases hf2 : inC L (f : Int) with
    | false => rfl
    | true =>
      have : f < h ↔ f < x + 1 := by
        refine ⟨fun h1 => by omega, fun h1 => ?_⟩
        refine Classical.byContradiction fun h2 => ?_
        have m1 := cin_mono L h f (by omega)
        have m2 : cin L (f + 1) = cin L f + 1 := by rw [cin_succ, hf2]; rfl
        have m3 := cin_mono L (f + 1) x (by omega)
        have m4 : cin L (x + 1) = cin L x + 1 := by rw [cin_succ, hi]; rfl
        omega
      rw [decide_eq_decide.2 this]
/-- Whether all of the first that are in stay. -/
def allS (L : List Int) (S : List Bool) : Nat → Bool
  | 0 => true
  | f + 1 => allS L S f && (!(inC L (f : Int)) || st S (f : Int))
theorem allS_succ (L : List Int) (S : List Bool) (f : Nat) : allS L S (f + 1) = (allS L S f && (!(inC L (f : Int)) || st S (f : Int))) := rfl
theorem allS_no {L : List Int} {S : List Bool} : ∀ k, allS L S k = false → ∃ f, f < k ∧ inC L (f : Int) = true ∧ st S (f : Int) = false := by
  intro k
  induction k with
  | zero => intro h; cases h
  | succ k ih =>
    intro h
    rw [allS_succ] at h
    cases h1 : allS L S k with
    | false =>
      obtain ⟨f, a, b, c⟩ := ih h1
      exact ⟨f, by omega, b, c⟩
    | true =>
      rw [h1, Bool.true_and] at h
      cases h2 : inC L (k : Int) with
      | false => rw [h2] at h; cases h
      | true =>
        rw [h2] at h
        exact ⟨k, by omega, h2, by simpa using h⟩

/-- Turn, with who stays: whoever is told is in, and doesn't stay where any doesn't. -/
theorem fair_turn (w : World) (A : Option Addr) (c : Nat) (S : List Bool) (g sb : Nat) (L L2 : List Int) (h2 k : Nat) (W : World) (hC : Kd.C Kd.bool w A S.length S) (hk : cin L 96 = k) (hk0 : ¬ k = 0) (hL : L2.length = 98) (hh : L2.getD 96 0 = (h2 : Int)) (h96 : h2 < 96) (hsame : ∀ f : Nat, f < 96 → inC L2 (f : Int) = inC L (f : Int)) (hb : CS W g L2) (hs : Stay w w.heap.size A c S W) (hg : w.heap.size ≠ g) (hg2 : w.heap.size ≤ g) :
    Calls Try.prog 10 #[.pointer (some ⟨g, 0, none⟩), .func (.func 11) #[] #[.pointer (some ⟨w.heap.size, 0, none⟩)], .slice none 0 0] W fun e w' => ∃ (y : Nat), y < 96 ∧ inC L (y : Int) = true ∧ (allS L S 96 = false → st S (y : Int) = false) ∧ e = .returned (.tuple #[.int .i64 (y : Int), .bool true]) ∧ Stay w w.heap.size A c S w' ∧ CS w' g (L2.set 96 (((y + 1) % 96 : Nat) : Int)) ∧ Far (fun k => k = g ∨ k = w.heap.size) W w' := by
  obtain ⟨f, _, hf96, hfi⟩ := cin_some L 0 96 (by omega) (by rw [hk]; exact Nat.pos_of_ne_zero hk0)
  have hmemf := rnd_hasAny (L := L2) (h := h2) (by rw [hsame f hf96]; exact hfi) hf96 h96
  obtain ⟨z, r, hzr⟩ : ∃ z r, rnd L2 [] h2 96 = z :: r := by
    cases hr : rnd L2 [] h2 96 with
    | nil => rw [hr] at hmemf; cases hmemf
    | cons z r => exact ⟨z, r, rfl⟩
  have hmem := rnd_mem L2 [] h2 96
  have hin := rnd_in L2 [] h2 96
  obtain ⟨x, rfl, hx96⟩ := hmem z (by rw [hzr]; simp)
  have hT := turn_fair (fun (_ : Unit) W => Stay w w.heap.size A c S W) (fun _ f => st S f) (fun _ _ => ()) w.heap.size (fun _ _ _ h hb => h.below hb)
    (fun _ f W hW _ => (stays_calls w.heap.size A c S f w W hC hW).mono (by rintro e w' ⟨rfl, rfl⟩; exact ⟨rfl, hW, Far.refl _ _⟩)) () g (fun _ _ i u hW => hW.set hg hg2 i u) L2 hL h2 hh h96 none 0 [] W hb (Kd.C_nil _ _) (Nat.le_refl _) (by decide) x r hzr hx96 hs hg (blk_lt hs.blk)
  refine hT.mono ?_
  rintro e w' ⟨y, hy, rfl, hval, hp, hcs, hf⟩
  have hyin : ((y : Nat) : Int) ∈ rnd L2 [] h2 96 := by
    rcases askAll_one (st S) (rnd L2 [] h2 96 ++ rnd L2 [] h2 96) with ⟨q, h1, h2, h3⟩ | ⟨h1, h2⟩
    · rw [h1] at hval
      rw [hval]
      rcases List.mem_append.1 h2 with h | h <;> exact h
    · rw [h1] at hval
      rw [hval, hzr]
      simp
  refine ⟨y, hy, by rw [← hsame y hy]; exact (hin _ hyin).1, fun hall => ?_, rfl, hp, hcs, hf⟩
  rcases askAll_one (st S) (rnd L2 [] h2 96 ++ rnd L2 [] h2 96) with ⟨q, h1, _, h3⟩ | ⟨h1, h2'⟩
  · rw [h1] at hval
    rw [hval]
    exact h3
  · obtain ⟨f', hf'1, hf'2, hf'3⟩ := allS_no 96 hall
    have := h2' (f' : Int) (List.mem_append.2 (.inl (rnd_hasAny (L := L2) (h := h2) (by rw [hsame f' hf'1]; exact hf'2) hf'1 h96)))
    rw [this] at hf'3
    cases hf'3
theorem hb5_of {W W' : World} {g hc sb : Nat} {o : Obj} (hf : Far (fun k => k = g ∨ k = hc) W W') (hb : W.heap[sb]? = some o) (h1 : sb ≠ g) (h2 : hc ≠ sb) : W'.heap[sb]? = some o := hf.blk hb (fun e => e.elim h1 (fun e => h2 e.symm))
theorem alloc_size (w : World) (o : Obj) : (w.alloc o).heap.size = w.heap.size + 1 := by
  show (w.heap.push o).size = _
  rw [Array.size_push]
set_option maxHeartbeats 8000000 in
set_option maxRecDepth 100000 in
theorem fair_law (A : Option Addr) (c : Nat) (fr : List Int) (A2 : Option Addr) (c2 : Nat) (S : List Bool) (w : World) (hC : Kd.C (Kd.int .u8) w A fr.length fr) (hc : fr.length ≤ c) (hC2 : Kd.C Kd.bool w A2 S.length S) (hc2 : S.length ≤ c2) (hB : bytesN fr) :
    Calls Try.prog 4 #[.slice A fr.length c, .slice A2 S.length c2] w fun e w' => e = .returned (.bool true) ∧ Below w.heap.size w w' := by
  replace hC := Aside0.mk hC
  replace hc := Aside0.mk hc
  replace hC2 := Aside0.mk hC2
  replace hc2 := Aside0.mk hc2
  replace hB := Aside0.mk hB
  obtain ⟨Z, hZ⟩ : ∃ Z, Z = bls (List.replicate 96 false) := ⟨_, rfl⟩
  have hz33 : ∀ w, (zeroValue 33).run Try.prog w = .ok (.agg Z) w := by
    intro w
    rw [hZ]
    kernel_rfl
  have hzs : Z.size = 96 := by rw [hZ]; kernel_rfl
  have hzne : ¬ Z = #[] := by
    intro e
    rw [e] at hzs
    cases hzs
  replace hZ := Aside0.mk hZ
  by_cases h1 : fr.length > 96
  · have d1 : decide ((fr.length : Int) > 96) = true := decide_eq_true (by omega)
    have d2 : decide (96 < (fr.length : Int)) = true := decide_eq_true (by omega)
    have d3 : decide (96 < fr.length) = true := decide_eq_true (by omega)
    go_enter Try.func4, Try.ntmps4
    go_wp2_with (go_at_call 6; refine (lives_calls _).mono ?_; rintro e w7 ⟨rfl, b7⟩; replace b7 := Aside0.mk b7)
    go_returns
    exact ⟨rfl, (below_alloc (Below.refl _ w) _).trans (Below_low b7.out (Far.alloc (Far.refl (fun _ => False) w) _).size)⟩
  have d1 : decide ((fr.length : Int) > 96) = false := decide_eq_false (by omega)
  have d2 : decide (96 < (fr.length : Int)) = false := decide_eq_false (by omega)
  have d3 : decide (96 < fr.length) = false := decide_eq_false (by omega)
  by_cases h2 : S.length > 200
  · have d4 : decide (200 < (S.length : Int)) = true := decide_eq_true (by omega)
    have d5 : decide (200 < S.length) = true := decide_eq_true (by omega)
    go_enter Try.func4, Try.ntmps4
    go_wp2_with (go_at_call 6; refine (lives_calls _).mono ?_; rintro e w7 ⟨rfl, b7⟩; replace b7 := Aside0.mk b7)
    go_returns
    exact ⟨rfl, (below_alloc (Below.refl _ w) _).trans (Below_low b7.out (Far.alloc (Far.refl (fun _ => False) w) _).size)⟩
  have d4 : decide (200 < (S.length : Int)) = false := decide_eq_false (by omega)
  have d5 : decide (200 < S.length) = false := decide_eq_false (by omega)
  replace h1 := Aside0.mk h1
  replace h2 := Aside0.mk h2
  have hmf : ∀ (fn : Fn) (first cap : Array Value) (w : World), (Instr.makeFunc fn first cap).run Try.prog w = .ok (.func fn first cap) w := fun _ _ _ _ => rfl
  go_enter Try.func4, Try.ntmps4
  go_upto_region 4 with (go_at_call 7; refine (new_calls _).mono ?_; rintro e w1 ⟨rfl, rfl⟩)
  have ha : Stay w w.heap.size A2 c2 S (w.alloc (.cells #[.slice A2 S.length c2] 32 (0, 0))) := ⟨blk_new w _, below_alloc (Below.refl _ _) _⟩
  have hb1 := blk_new (w.alloc (.cells #[.slice A2 S.length c2] 32 (0, 0))) (.cells (ints zeros) 51 (0, 0))
  have hst1 := ha.below (below_alloc (Below.refl _ _) (.cells (ints zeros) 51 (0, 0)))
  clear ha
  rw [alloc_size w] at hb1
  generalize (w.alloc (.cells #[.slice A2 S.length c2] 32 (0, 0))).alloc (.cells (ints zeros) 51 (0, 0)) = w1 at hb1 hst1 ⊢
  obtain ⟨g, hg⟩ : ∃ g, g = w.heap.size + 1 := ⟨_, rfl⟩
  rw [← hg] at hb1 ⊢
  have hgs : w.heap.size ≠ g := by omega
  have hgs2 : w.heap.size ≤ g := by omega
  clear hg
  replace hb1 : Aside0 (CS w1 g zeros) := ⟨hb1⟩
  replace hst1 := Aside0.mk hst1
  replace hgs := Aside0.mk hgs
  replace hgs2 := Aside0.mk hgs2
  go_wp2
  go_loopg [6, 7] fr.length (fun kq v6 v7 w' => ∃ (i n : Nat) (L : List Int), v6 = .int .i64 (n : Int) ∧ v7 = .int .i64 (i : Int) ∧ Aside0 (i + kq = fr.length) ∧ Aside0 (L.length = 98 ∧ L.getD 96 0 = 0 ∧ L.getD 97 0 = (n : Int) ∧ cin L 96 = n) ∧ Aside0 (CS w' g L) ∧ Aside0 (Stay w w.heap.size A2 c2 S w'))
  case atStart => exact ⟨0, 0, zeros, rfl, rfl, ⟨by omega⟩, ⟨by decide, by decide +kernel, by decide +kernel, cin_zeros 96 (Nat.le_refl _)⟩, hb1, hst1⟩
  case round =>
    obtain ⟨i, n, L, rfl, rfl, HK, HL, HC, HS⟩ := hrel
    clear hb1 hst1
    cases gk with
    | zero =>
      obtain rfl : i = fr.length := by have := HK.out; omega
      have e1 : decide (((fr.length : Nat) : Int) < ((fr.length : Nat) : Int)) = false := decide_eq_false (by omega)
      have hn96 : n ≤ 96 := by have := HL.out.2.2.2; have := cin_le L 96; omega
      go_wp2
      have hbB := blk_new wr (.cells Z 33 (0, 0))
      rw [hZ.out, ← seenB_zero L] at hbB
      have hcB := blk_alloc HC.out (.cells Z 33 (0, 0))
      have hsB := HS.out.below (below_alloc (Below.refl _ _) (.cells Z 33 (0, 0)))
      rw [hZ.out, ← seenB_zero L] at hcB hsB ⊢
      have hge : w.heap.size ≤ wr.heap.size := HS.out.low.size
      have hgb : wr.heap.size ≠ g := fun e => by have := blk_lt HC.out; omega
      clear HC HS
      generalize wr.alloc (.cells (bls (seenB L 0)) 33 (0, 0)) = wb at hbB hcB hsB ⊢
      generalize wr.heap.size = sb at hbB hge hgb ⊢
      have hbs : w.heap.size ≠ sb := fun e => by rw [← e, hsB.blk] at hbB; injection hbB with hbB; injection hbB with _ hbB; cases hbB
      replace hbB := Aside0.mk hbB
      replace hcB : Aside0 (CS wb g L) := ⟨hcB⟩
      replace hsB := Aside0.mk hsB
      replace hge := Aside0.mk hge
      replace hgb := Aside0.mk hgb
      replace hbs := Aside0.mk hbs
      have hh0 : ∃ h : Nat, h ≤ 96 ∧ cin L h = 0 ∧ L.getD 96 0 = ((h % 96 : Nat) : Int) ∧ bls (seenB L 0) = bls (seenB L h) := ⟨0, by omega, rfl, by rw [HL.out.2.1]; rfl, rfl⟩
      go_loopg [9] n (fun kq v9 w' => ∃ (k h : Nat) (L : List Int), v9 = .int .i64 (k : Int) ∧ Aside0 (k + kq = n) ∧ Aside0 (L.length = 98 ∧ L.getD 96 0 = ((h % 96 : Nat) : Int) ∧ L.getD 97 0 = (n : Int) ∧ cin L 96 = n) ∧ Aside0 (h ≤ 96 ∧ cin L h = k) ∧ Aside0 (CS w' g L) ∧ Aside0 (Stay w w.heap.size A2 c2 S w') ∧ Aside0 (w'.heap[sb]? = some (.cells (bls (seenB L h)) 33 (0, 0))))
      case atStart => exact ⟨0, 0, L, rfl, ⟨by omega⟩, ⟨HL.out.1, HL.out.2.1, HL.out.2.2.1, HL.out.2.2.2⟩, ⟨by omega, rfl⟩, hcB, hsB, hbB⟩
      case round =>
        clear hbB hcB hsB HL hh0
        obtain ⟨k, h, L, rfl, HK2, HL, HH, HC, HS, HSB⟩ := hrel
        cases gk with
        | zero =>
          obtain rfl : k = n := by have := HK2.out; omega
          have e2 : decide ((k : Int) < (k : Int)) = false := decide_eq_false (by omega)
          have hsf : ∀ f, f < 96 → (seenB L h).getD f false = inC L (f : Int) := fun f hf => by
            rw [seenB_at L h f hf]
            cases hi : inC L (f : Int) with
            | false => rfl
            | true => rw [decide_eq_true (cin_eq L h HH.out.1 (by rw [HH.out.2, HL.out.2.2.2]) f hf hi)]; rfl
          replace hsf := Aside0.mk hsf
          go_wp2
          go_loopg [13, 14] 96 (fun kq v13 v14 w' => ∃ (f : Nat), v13 = .bool (allS L S f) ∧ v14 = .int .i64 (f : Int) ∧ Aside0 (f + kq = 96) ∧ Aside0 (CS w' g L) ∧ Aside0 (Stay w w.heap.size A2 c2 S w') ∧ Aside0 (w'.heap[sb]? = some (.cells (bls (seenB L h)) 33 (0, 0))))
          case atStart => exact ⟨0, rfl, rfl, ⟨by omega⟩, HC, HS, HSB⟩
          case round =>
            obtain ⟨f, rfl, rfl, HK3, HC3, HS3, HSB3⟩ := hrel
            clear HC HS HSB
            cases gk with
            | zero =>
              obtain rfl : f = 96 := by have := HK3.out; omega
              have e4 : decide (((96 : Nat) : Int) < 96) = false := by decide
              obtain ⟨al, hal⟩ : ∃ al, allS L S 96 = al := ⟨_, rfl⟩
              rw [hal]
              by_cases hk0 : k = 0
              · subst hk0
                have k0 : decide (((0 : Nat) : Int) > 0) = false := by decide
                have k1 : decide ((0 : Int) < ((0 : Nat) : Int)) = false := by decide
                have hlc := Aside0.mk (len_calls g L HL.out.1 wr HC3.out)
                rw [HL.out.2.2.1] at hlc
                go_wp2
                go_loopg [15] 0 (fun kq v15 w' => v15 = .int .i64 0 ∧ w' = wr)
                case atStart => exact ⟨rfl, rfl⟩
                case round =>
                  obtain ⟨rfl, rfl⟩ := hrel
                  go_wp2_with (first | (go_at_call 12; refine hlc.out.mono ?_; rintro e w7 ⟨rfl, rfl⟩) | (go_at_call 6; refine (lives_calls _).mono ?_; rintro e w8 ⟨rfl, b8⟩; replace b8 := Aside0.mk b8))
                  go_returns
                  exact ⟨rfl, HS3.out.low.trans (Below_low b8.out HS3.out.low.size)⟩
              · have k0 : decide ((k : Int) > 0) = true := decide_eq_true (by omega)
                have k1 : decide (0 < (k : Int)) = true := decide_eq_true (by omega)
                have k2 : decide (0 < k) = true := decide_eq_true (by omega)
                replace hk0 := Aside0.mk hk0
                replace hal := Aside0.mk hal
                go_wp2
                go_loopg [15] 4 (fun kq v15 w' => ∃ (i h2 : Nat) (L2 : List Int), v15 = .int .i64 (i : Int) ∧ Aside0 (i + kq = 4) ∧ Aside0 (L2.length = 98 ∧ L2.getD 96 0 = (h2 : Int) ∧ h2 < 96 ∧ L2.getD 97 0 = (k : Int) ∧ ∀ f : Nat, f < 96 → inC L2 (f : Int) = inC L (f : Int)) ∧ Aside0 (CS w' g L2) ∧ Aside0 (Stay w w.heap.size A2 c2 S w') ∧ Aside0 (w'.heap[sb]? = some (.cells (bls (seenB L h)) 33 (0, 0))))
                case atStart => exact ⟨0, h % 96, L, rfl, ⟨by omega⟩, ⟨HL.out.1, HL.out.2.1, by omega, HL.out.2.2.1, fun _ _ => rfl⟩, HC3, HS3, HSB3⟩
                case round =>
                  obtain ⟨i, h2, L2, rfl, HK4, HL4, HC4, HS4, HSB4⟩ := hrel
                  clear HC3 HS3 HSB3
                  cases gk with
                  | zero =>
                    obtain rfl : i = 4 := by have := HK4.out; omega
                    have e6 : decide (((4 : Nat) : Int) < 4) = false := by decide
                    have hlc := Aside0.mk (len_calls g L2 HL4.out.1 wr HC4.out)
                    rw [HL4.out.2.2.2.1] at hlc
                    go_wp2_with (first | (go_at_call 12; refine hlc.out.mono ?_; rintro e w7 ⟨rfl, rfl⟩) | (go_at_call 6; refine (lives_calls _).mono ?_; rintro e w8 ⟨rfl, b8⟩; replace b8 := Aside0.mk b8))
                    go_returns
                    exact ⟨rfl, HS4.out.low.trans (Below_low b8.out HS4.out.low.size)⟩
                  | succ k4 =>
                    have e6 : decide ((i : Int) < 4) = true := decide_eq_true (by have := HK4.out; omega)
                    have e7 : decide (i < 4) = true := decide_eq_true (by have := HK4.out; omega)
                    have ws := Aside0.mk (w64s i (by have := HK4.out; omega))
                    have hT := Aside0.mk (fair_turn w A2 c2 S g sb L L2 h2 k wr hC2.out HL.out.2.2.2 hk0.out HL4.out.1 HL4.out.2.1 HL4.out.2.2.1 HL4.out.2.2.2.2 HC4.out HS4.out hgs.out hgs2.out)
                    go_upto_region 29 with (go_at_call 10; refine hT.out.mono ?_; rintro e w5 ⟨y, hy, hin, hst, rfl, hs5, hc5, hf5⟩; replace hc5 := Aside0.mk hc5; replace hs5 := Aside0.mk hs5; replace hf5 := Aside0.mk hf5)
                    have hc51 := hb5_of hf5.out HSB4.out hgb.out hbs.out
                    have cy := bls_cell hc51 y (by rw [seenB_length]; exact hy)
                    rw [hsf.out y hy, hin] at cy
                    replace hc51 := Aside0.mk hc51
                    have hlen : (L2.set 96 (((y + 1) % 96 : Nat) : Int)).length = 98 := by rw [List.length_set]; exact HL4.out.1
                    have hget : (L2.set 96 (((y + 1) % 96 : Nat) : Int)).getD 96 0 = (((y + 1) % 96 : Nat) : Int) ∧ (y + 1) % 96 < 96 := ⟨by rw [getD_set _ _ _ _ (by have := HL4.out.1; omega), if_pos rfl], by omega⟩
                    have hln : (L2.set 96 (((y + 1) % 96 : Nat) : Int)).getD 97 0 = (k : Int) := by rw [getD_set _ _ _ _ (by have := HL4.out.1; omega), if_neg (by omega)]; exact HL4.out.2.2.2.1
                    have hsm : ∀ f : Nat, f < 96 → inC (L2.set 96 (((y + 1) % 96 : Nat) : Int)) (f : Int) = inC L (f : Int) := fun f hf => by rw [inC_set L2 _ f hf HL4.out.1]; exact HL4.out.2.2.2.2 f hf
                    have hall4 := Aside0.mk (⟨hlen, hget.1, hget.2, hln, hsm⟩ : (L2.set 96 (((y + 1) % 96 : Nat) : Int)).length = 98 ∧ (L2.set 96 (((y + 1) % 96 : Nat) : Int)).getD 96 0 = (((y + 1) % 96 : Nat) : Int) ∧ (y + 1) % 96 < 96 ∧ (L2.set 96 (((y + 1) % 96 : Nat) : Int)).getD 97 0 = (k : Int) ∧ ∀ f : Nat, f < 96 → inC (L2.set 96 (((y + 1) % 96 : Nat) : Int)) (f : Int) = inC L (f : Int))
                    have hq5 := Aside0.mk (stays_calls w.heap.size A2 c2 S y w w5 hC2.out hs5.out)
                    have y0 : (0 : Int) ≤ (y : Int) := by omega
                    have y1 : (y : Int) < 96 := by omega
                    have hm : Int.tmod (y : Int) 96 = (y : Int) := by rw [Int.tmod_eq_emod_of_nonneg (by omega)]; omega
                    have hm' : (y : Int) % 96 = (y : Int) := by omega
                    have hmx : max (0 : Int) (y : Int) = (y : Int) := by omega
                    clear hlen hget hln hsm hin
                    rcases Nat.eq_zero_or_pos y with hy0 | hy0
                    · have cy0 : w5.cell? ⟨sb, 0, none⟩ = some (.bool true) := by rw [hy0] at cy; exact cy
                      have d0 : ¬ 0 < y := by omega
                      have d1' : decide (0 < y) = false := decide_eq_false (by omega)
                      have d2' : decide ((0 : Int) < (y : Int)) = false := decide_eq_false (by omega)
                      have d3' : decide ((y : Int) > 0) = false := decide_eq_false (by omega)
                      clear hy0
                      cases al with
                      | true =>
                        go_wp2
                        go_roundg k4
                        case measure => omega
                        case rel => exact ⟨i + 1, (y + 1) % 96, _, by first | rw [ws.out] | rfl, ⟨by have := HK4.out; omega⟩, hall4, hc5, hs5, hc51⟩
                      | false =>
                        rw [hst hal.out] at hq5
                        go_wp2_with (go_at_call 11; refine hq5.out.mono ?_; rintro e w7 ⟨rfl, rfl⟩)
                        go_roundg k4
                        case measure => omega
                        case rel => exact ⟨i + 1, (y + 1) % 96, _, by first | rw [ws.out] | rfl, ⟨by have := HK4.out; omega⟩, hall4, hc5, hs5, hc51⟩
                    · have d1' : decide (0 < y) = true := decide_eq_true (by omega)
                      have d2' : decide ((0 : Int) < (y : Int)) = true := decide_eq_true (by omega)
                      have d3' : decide ((y : Int) > 0) = true := decide_eq_true (by omega)
                      cases al with
                      | true =>
                        go_wp2
                        go_roundg k4
                        case measure => omega
                        case rel => exact ⟨i + 1, (y + 1) % 96, _, by first | rw [ws.out] | rfl, ⟨by have := HK4.out; omega⟩, hall4, hc5, hs5, hc51⟩
                      | false =>
                        rw [hst hal.out] at hq5
                        go_wp2_with (go_at_call 11; refine hq5.out.mono ?_; rintro e w7 ⟨rfl, rfl⟩)
                        go_roundg k4
                        case measure => omega
                        case rel => exact ⟨i + 1, (y + 1) % 96, _, by first | rw [ws.out] | rfl, ⟨by have := HK4.out; omega⟩, hall4, hc5, hs5, hc51⟩
            | succ k3 =>
              have hf : f < 96 := by have := HK3.out; omega
              have e4 : decide ((f : Int) < 96) = true := decide_eq_true (by omega)
              have e5 : decide (f < 96) = true := decide_eq_true hf
              have f0 : (0 : Int) ≤ (f : Int) := by omega
              have f1 : (f : Int) < 96 := by omega
              have cf := bls_cell HSB3.out f (by rw [seenB_length]; exact hf)
              rw [hsf.out f hf] at cf
              have hsuc := allS_succ L S f
              have ws := Aside0.mk (w64s f (by omega))
              have hq11 := fun m => stays_calls w.heap.size A2 c2 S f w (wr.drewN m) hC2.out (HS3.out.below (pw_below_drewN (Below.refl _ wr) m))
              cases hi : inC L (f : Int) with
              | false =>
                rw [hi] at cf hsuc
                have hsame : allS L S (f + 1) = allS L S f := by rw [hsuc]; simp
                replace hsame := Aside0.mk hsame
                clear hsuc hq11
                go_upto_region 23 with (fail)
                first | go_quiet (fail) | skip
                go_wp2
                go_roundg k3
                case measure => omega
                case rel => exact ⟨f + 1, by rw [hsame.out], by first | rw [ws.out] | rfl, ⟨by have := HK3.out; omega⟩, by first | exact HC3 | exact ⟨blk_drewN HC3.out _⟩, by first | exact HS3 | exact ⟨HS3.out.below (pw_below_drewN (Below.refl _ _) _)⟩, by first | exact HSB3 | exact ⟨blk_drewN HSB3.out _⟩⟩
              | true =>
                rw [hi] at cf hsuc
                cases hst : st S (f : Int) with
                | true =>
                  rw [hst] at hsuc hq11
                  have hsame : allS L S (f + 1) = allS L S f := by rw [hsuc]; simp
                  replace hsame := Aside0.mk hsame
                  have hqq := Aside0.mk (stays_calls w.heap.size A2 c2 S f w wr hC2.out HS3.out)
                  rw [hst] at hqq
                  clear hsuc hq11
                  go_wp2_with (go_at_call 11; refine hqq.out.mono ?_; rintro e w5 ⟨rfl, rfl⟩)
                  go_roundg k3
                  case measure => omega
                  case rel => exact ⟨f + 1, by rw [hsame.out], by first | rw [ws.out] | rfl, ⟨by have := HK3.out; omega⟩, HC3, HS3, HSB3⟩
                | false =>
                  rw [hst] at hsuc hq11
                  have hsame : allS L S (f + 1) = false := by rw [hsuc]; simp
                  replace hsame := Aside0.mk hsame
                  have hqq := Aside0.mk (stays_calls w.heap.size A2 c2 S f w wr hC2.out HS3.out)
                  rw [hst] at hqq
                  clear hsuc hq11
                  go_wp2_with (go_at_call 11; refine hqq.out.mono ?_; rintro e w5 ⟨rfl, rfl⟩)
                  go_roundg k3
                  case measure => omega
                  case rel => exact ⟨f + 1, by rw [hsame.out], by first | rw [ws.out] | rfl, ⟨by have := HK3.out; omega⟩, HC3, HS3, HSB3⟩
        | succ k2 =>
          have hk : k < n := by have := HK2.out; omega
          have e2 : decide ((k : Int) < (n : Int)) = true := decide_eq_true (by omega)
          have e3 : decide (k < n) = true := decide_eq_true hk
          have hsome := cin_some L h 96 HH.out.1 (by rw [HH.out.2, HL.out.2.2.2]; exact hk)
          have hh96 : h < 96 := by obtain ⟨f, h1, h2, _⟩ := hsome; omega
          have hmod : h % 96 = h := Nat.mod_eq_of_lt hh96
          obtain ⟨x, r, hr, hhx, hx96, hxin, hxc⟩ := next_in hh96 hsome
          have hT := Aside0.mk (turn_nil g L HL.out.1 h (by rw [HL.out.2.1, hmod]) hh96 none 0 [] wr HC.out (Kd.C_nil _ _) (Nat.le_refl _) (by decide) x r hr hx96)
          have hstep := seenB_step HL.out.1 h x hx96 hhx hxin hxc (((x + 1) % 96 : Nat) : Int)
          have hsx : (seenB L h).getD x false = false := by rw [seenB_at L h x hx96, hxin, decide_eq_false (by omega)]; rfl
          have hL2 : (L.set 96 (((x + 1) % 96 : Nat) : Int)).length = 98 ∧ (L.set 96 (((x + 1) % 96 : Nat) : Int)).getD 96 0 = (((x + 1) % 96 : Nat) : Int) ∧ (L.set 96 (((x + 1) % 96 : Nat) : Int)).getD 97 0 = (n : Int) ∧ cin (L.set 96 (((x + 1) % 96 : Nat) : Int)) 96 = n :=
            ⟨by rw [List.length_set]; exact HL.out.1, by rw [getD_set _ _ _ _ (by have := HL.out.1; omega), if_pos rfl], by rw [getD_set _ _ _ _ (by have := HL.out.1; omega), if_neg (by omega)]; exact HL.out.2.2.1, by rw [cin_set L _ HL.out.1 96 (Nat.le_refl _)]; exact HL.out.2.2.2⟩
          have hH2 : x + 1 ≤ 96 ∧ cin (L.set 96 (((x + 1) % 96 : Nat) : Int)) (x + 1) = k + 1 := ⟨by omega, by rw [cin_set L _ HL.out.1 (x + 1) (by omega), hxc, HH.out.2]⟩
          have ws := Aside0.mk (w64s k (by omega))
          replace hstep := Aside0.mk hstep
          replace hsx := Aside0.mk hsx
          replace hL2 := Aside0.mk hL2
          replace hH2 := Aside0.mk hH2
          have x0 : (0 : Int) ≤ (x : Int) := by omega
          have x1 : (x : Int) < 96 := by omega
          have x3 : decide ((x : Int) < 0) = false := decide_eq_false (by omega)
          have x4 : decide ((x : Int) > 95) = false := decide_eq_false (by omega)
          have x5 : decide (95 < (x : Int)) = false := decide_eq_false (by omega)
          have x6 : decide (95 < x) = false := decide_eq_false (by omega)
          clear hsome hr hhx hxin hxc hmod hh96
          go_upto_region 15 with (go_at_call 10; refine hT.out.mono ?_; rintro e w5 ⟨rfl, hc5, hf5⟩; replace hc5 := Aside0.mk hc5; replace hf5 := Aside0.mk hf5)
          have hs5 := Aside0.mk (HS.out.far hgs.out hgs2.out hf5.out)
          have hb5 := Aside0.mk (hf5.out.blk HSB.out (fun e => hgb.out e))
          have cx := bls_cell hb5.out x (by rw [seenB_length]; exact hx96)
          rw [hsx.out] at cx
          have fx := blk_frozen hb5.out x
          go_wp2
          go_roundg k2
          case measure => omega
          case rel => exact ⟨k + 1, x + 1, _, by first | rw [ws.out] | rfl, ⟨by have := HK2.out; omega⟩, hL2, hH2, ⟨blk_far hc5.out (p := ⟨sb, x, none⟩) (fun e => hgb.out e.symm) _⟩, ⟨hs5.out.set hbs.out hge.out x _⟩, ⟨by rw [← hstep.out]; exact bls_set hb5.out x true⟩⟩

    | succ k =>
      have hi : i < fr.length := by have := HK.out; omega
      have hi96 : i < 96 := by have := h1.out; omega
      have e1 : decide ((i : Int) < (fr.length : Int)) = true := decide_eq_true (by omega)
      have e2 : decide (i < fr.length) = true := decide_eq_true hi
      have e3 : decide (0 ≤ (i : Int)) = true := decide_eq_true (by omega)
      obtain ⟨ad, rfl, hcell⟩ := int_at hC.out i hi
      have k0 := hcell _ HS.out.low
      have hbb := hB.out fr[i] (List.getElem_mem hi)
      obtain ⟨x, hx⟩ : ∃ x : Nat, fr[i] = (x : Int) := ⟨fr[i].toNat, by omega⟩
      have hx256 : x < 256 := by omega
      rw [hx] at k0
      have hm : Int.tmod (x : Int) 96 = ((x % 96 : Nat) : Int) := by rw [Int.tmod_eq_emod_of_nonneg (by omega)]; omega
      have hxm : x % 96 < 96 := by omega
      obtain ⟨m, hmm⟩ : ∃ m, m = x % 96 := ⟨_, rfl⟩
      rw [← hmm] at hm hxm
      have ws := Aside0.mk (w64s i (by omega))
      have hn96 : n ≤ 96 := by have := HL.out.2.2.2; have := cin_le L 96; omega
      have wn := Aside0.mk (w64s n (by omega))
      have hadd := Aside0.mk (add_calls g L HL.out.1 (m : Int) (i : Int) wr HC.out)
      have hlen := addL_length L (m : Int) (i : Int)
      rw [HL.out.1] at hlen
      have hhand := hand_add L HL.out.1 (m : Int) (i : Int)
      rw [HL.out.2.1] at hhand
      have hln := len_add L HL.out.1 (m : Int) (i : Int)
      rw [HL.out.2.2.1, wn.out] at hln
      clear hx hbb hcell hmm
      cases hok : addOk L (m : Int) (i : Int) with
      | true =>
        rw [hok] at hadd hln
        have hcin := cin_add HL.out.1 m i hok hxm (addOk_not hok) 96 (Nat.le_refl _)
        rw [HL.out.2.2.2, if_pos hxm] at hcin
        have HL2 := Aside0.mk (⟨hlen, hhand, hln, hcin⟩ : (addL L (m : Int) (i : Int)).length = 98 ∧ (addL L (m : Int) (i : Int)).getD 96 0 = 0 ∧ (addL L (m : Int) (i : Int)).getD 97 0 = ((n + 1 : Nat) : Int) ∧ cin (addL L (m : Int) (i : Int)) 96 = n + 1)
        clear hlen hhand hln hcin
        go_wp2_with (go_at_call 8; refine hadd.out.mono ?_; rintro e w5 ⟨rfl, hc5, hf5⟩; replace hc5 := Aside0.mk hc5; replace hf5 := Aside0.mk hf5)
        go_roundg k
        case measure => omega
        case rel => exact ⟨i + 1, n + 1, _, by first | rw [wn.out] | rfl, by first | rw [ws.out] | rfl, ⟨by have := HK.out; omega⟩, HL2, hc5, ⟨HS.out.far hgs.out hgs2.out hf5.out⟩⟩
      | false =>
        rw [hok] at hadd
        have hsame : addL L (m : Int) (i : Int) = L := by unfold addL; rw [hok]; rfl
        rw [hsame] at hadd
        clear hlen hhand hln hsame
        go_wp2_with (go_at_call 8; refine hadd.out.mono ?_; rintro e w5 ⟨rfl, hc5, hf5⟩; replace hc5 := Aside0.mk hc5; replace hf5 := Aside0.mk hf5)
        go_roundg k
        case measure => omega
        case rel => exact ⟨i + 1, n, _, rfl, by first | rw [ws.out] | rfl, ⟨by have := HK.out; omega⟩, HL, hc5, ⟨HS.out.far hgs.out hgs2.out hf5.out⟩⟩

theorem fair_walk (W : World) (A : Option Addr) (c : Nat) (fr : List Int) (hC : Kd.C (Kd.int .u8) W A fr.length fr) (hle : fr.length ≤ c) (hm : fr.length ≤ maxLen) (hR : ∀ x ∈ fr, (Lit.int .u8 x).wf = true)
    (A2 : Option Addr) (c2 : Nat) (S : List Bool) (hC2 : Kd.C Kd.bool W A2 S.length S) (hle2 : S.length ≤ c2) (hm2 : S.length ≤ maxLen) (hR2 : ∀ x ∈ S, True) :
    Calls Try.prog 4 #[.slice A fr.length c, .slice A2 S.length c2] W fun e w' => e = .returned (.bool true) ∧ Below W.heap.size W w' :=
  fair_law A c fr A2 c2 S W hC hle hC2 hle2 (bytesN.of_wf hR)

end Go.Proofs.Ytmmnkanijdbgpaa.Hand
