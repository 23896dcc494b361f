/- The document's list of what was noted, in memory: entries of seven cells; its Find, walked by hand. -/
import Derived.Test.YtfmkjdbhijeejaaT5
import Derived.Test.YtfmkjdbhijeejaaP10
namespace Go.Proofs.Ytfmkjdbhijeejaa.Hand
set_option linter.unusedVariables false
set_option linter.unusedSimpArgs false
open Go.RowKit Go.Proofs.Ytfmkjdbhijeejaa.R Go.Proofs.YtfmkjdbhijeejaaW.PrintWords Go.Proofs.YtfmkjdbhijeejaaW.PrintMore

def kN : Kd NN := Kd.iso (Kd.pair (Kd.int .i64) (Kd.pair (Kd.int .i64) (Kd.pair Kd.bool (Kd.pair Kd.bool (Kd.pair Kd.bool (Kd.pair Kd.bool Kd.bool)))))) (fun x : NN => (x.page, x.frame, x.u0, x.u1, x.u2, x.u3, x.u4))
def cN (x : NN) : List Value := [.int .i64 x.page, .int .i64 x.frame, .bool x.u0, .bool x.u1, .bool x.u2, .bool x.u3, .bool x.u4]
theorem kN_open {w : World} {x : NN} {cs : List Value} (h : kN.K w x cs) : cs = cN x := by
  obtain ⟨_, _, rfl, rfl, ⟨_, _, rfl, rfl, ⟨_, _, rfl, rfl, ⟨_, _, rfl, rfl, ⟨_, _, rfl, rfl, ⟨_, _, rfl, rfl, rfl⟩⟩⟩⟩⟩⟩ := h
  rfl
theorem kN_mkM (w : World) (base : Nat) (ok : Nat → Prop) (x : NN) : kN.M w base ok x (cN x) :=
  ⟨[_], _, rfl, rfl, [_], _, rfl, rfl, [_], _, rfl, rfl, [_], _, rfl, rfl, [_], _, rfl, rfl, [_], [_], rfl, rfl, rfl⟩
theorem kN_sz : kN.sz = 7 := rfl
/-- The use of a number. -/
def NN.use (x : NN) : Nat → Bool
  | 0 => x.u0 | 1 => x.u1 | 2 => x.u2 | 3 => x.u3 | _ => x.u4
def zNN : NN := ⟨0, 0, false, false, false, false, false⟩
theorem at_N {w : World} {A : Option Addr} {l : List NN} (h : Kd.C kN w A l.length l) (i : Nat) (hi : i < l.length) :
    ∃ ad, A = some ad ∧ w.cell? (ad.add (i * 7)) = some (.int .i64 l[i].page) ∧ w.cell? ⟨(ad.add (i * 7)).block, (ad.add (i * 7)).off + 1, none⟩ = some (.int .i64 l[i].frame) ∧
      ∀ k, k < 5 → w.cell? ⟨(ad.add (i * 7)).block, (ad.add (i * 7)).off + 2 + k, none⟩ = some (.bool (l[i].use k)) := by
  obtain ⟨ad, c, e, _, hK, hc0⟩ := Kd.C_get h zNN (i : Int) (by omega) (by omega)
  have e0 : l.getD ((i : Int).toNat) zNN = l[i] := by simp [hi]
  rw [e0] at hK
  have hc : ∀ j u, c[j]? = some u → w.cell? (ad.add (i * 7 + j)) = some u := hc0
  obtain rfl := kN_open hK
  refine ⟨ad, e, hc 0 _ rfl, by rw [← add_field _ _ 1 (by omega)]; exact hc 1 _ rfl, fun k hk => ?_⟩
  rw [show (ad.add (i * 7)).off + 2 + k = (ad.add (i * 7)).off + (2 + k) by omega, ← add_field _ _ (2 + k) (by omega)]
  refine hc (2 + k) _ ?_
  match k, hk with
  | 0, _ => rfl
  | 1, _ => rfl
  | 2, _ => rfl
  | 3, _ => rfl
  | 4, _ => rfl

/-! Find -/
def goodN (page : Int) (use : Nat) (y : NN) : Bool := y.page == page && y.use use
def findR (l : List NN) (page : Int) (use : Nat) : Int := match l.find? (goodN page use) with | some y => y.frame | none => -1
theorem findR_drop {l : List NN} {page : Int} {use : Nat} {i : Nat} (hi : i < l.length) : findR (l.drop i) page use = if goodN page use l[i] = true then l[i].frame else findR (l.drop (i + 1)) page use := by
  unfold findR
  rw [List.drop_eq_getElem_cons hi, List.find?_cons]
  cases goodN page use l[i] <;> simp

set_option maxHeartbeats 8000000 in
set_option maxRecDepth 100000 in
theorem rfind_calls (A : Option Addr) (c : Nat) (l : List NN) (page : Int) (use : Nat) (w : World) (hC : Kd.C kN w A l.length l) (hl : l.length ≤ 100000) (hu : use ≤ 4) :
    Calls Try.prog 17 #[.slice A l.length c, .int .i64 page, .int .i64 (use : Int)] w fun e w' => e = .returned (.int .i64 (findR l page use)) ∧ w' = w := by
  have d1 : decide ((use : Int) < 0) = false := decide_eq_false (by omega)
  have d2 : decide ((use : Int) > 4) = false := decide_eq_false (by omega)
  replace hC := Aside0.mk hC
  replace hl := Aside0.mk hl
  replace hu := Aside0.mk hu
  go_enter Try.func17, Try.ntmps17
  go_wp2
  go_loopg [7] l.length (fun kq v7 w' => ∃ (i : Nat), v7 = .int .i64 (i : Int) ∧ Aside0 (i + kq = l.length ∧ findR l page use = findR (l.drop i) page use) ∧ w' = w)
  case atStart => exact ⟨0, rfl, ⟨by omega, by simp⟩, rfl⟩
  case round =>
    obtain ⟨i, rfl, HK, rfl⟩ := hrel
    cases gk with
    | zero =>
      have e : i = l.length := by have := HK.out; omega
      subst e
      have d3 : decide (((l.length : Nat) : Int) < ((l.length : Nat) : Int)) = false := decide_eq_false (by omega)
      have r := HK.out.2
      rw [List.drop_eq_nil_of_le (Nat.le_refl _)] at r
      replace r := Aside0.mk r
      go_wp2
      go_returns
      exact ⟨by rw [r.out]; rfl, rfl⟩
    | succ k1 =>
      have hi : i < l.length := by have := HK.out; omega
      have d3 : decide ((i : Int) < ((l.length : Nat) : Int)) = true := decide_eq_true (by omega)
      have d4 : decide (0 ≤ (i : Int)) = true := decide_eq_true (by omega)
      obtain ⟨ad, eA, c0, c1, c2⟩ := at_N hC.out i hi
      replace c2 := c2 use (by have := hu.out; omega)
      have r := HK.out.2
      rw [findR_drop hi] at r
      generalize hy : l[i] = y at c0 c1 c2 r
      have ws := Aside0.mk (w64s i (by have := hl.out; omega))
      subst eA
      replace r := Aside0.mk r
      replace hi := Aside0.mk hi
      clear hy
      have i5 : (use : Int) < 5 := by have := hu.out; omega
      have i6 : use < 5 := by have := hu.out; omega
      have i7 : (0 : Int) ≤ (use : Int) := by omega
      go_wp2
      · rename_i h1 h2
        have e : goodN page use y = true := by unfold goodN; simp [h1, h2]
        go_returns
        exact ⟨by rw [r.out, if_pos e]; rfl, rfl⟩
      · rename_i h1 h2
        have e : ¬ goodN page use y = true := by unfold goodN; simp [h1, h2]
        go_roundg k1
        case measure => omega
        case rel => exact ⟨i + 1, by rw [ws.out], ⟨by have := HK.out; omega, by rw [r.out, if_neg e]⟩, rfl⟩
      · rename_i h1
        have e : ¬ goodN page use y = true := by unfold goodN; simp [h1]
        go_roundg k1
        case measure => omega
        case rel => exact ⟨i + 1, by rw [ws.out], ⟨by have := HK.out; omega, by rw [r.out, if_neg e]⟩, rfl⟩

/-- A use that may not be. -/
theorem rfind_bad (A : Option Addr) (n c : Nat) (page use : Int) (w : World) (hu : use < 0 ∨ 4 < use) :
    Calls Try.prog 17 #[.slice A n c, .int .i64 page, .int .i64 use] w fun e w' => e = .returned (.int .i64 (-1)) ∧ w' = w := by
  by_cases h : use < 0
  · have d1 : decide (use < 0) = true := decide_eq_true h
    go_enter Try.func17, Try.ntmps17
    go_wp2
    go_returns
    exact ⟨rfl, rfl⟩
  · have d1 : decide (use < 0) = false := decide_eq_false h
    have d2 : decide (use > 4) = true := decide_eq_true (by omega)
    go_enter Try.func17, Try.ntmps17
    go_wp2
    go_returns
    exact ⟨rfl, rfl⟩
end Go.Proofs.Ytfmkjdbhijeejaa.Hand
