/- The document's Note, walked by hand. -/
import Derived.Test.YtfmkjdbhijeejaaQ3
namespace Go.Proofs.Ytfmkjdbhijeejaa.Hand
set_option linter.unusedVariables false
set_option linter.unusedSimpArgs false
open Go.RowKit Go.Proofs.Ytfmkjdbhijeejaa.R Go.Proofs.YtfmkjdbhijeejaaW.PrintWords Go.Proofs.YtfmkjdbhijeejaaW.PrintMore

/-- A use that may be noted. -/
def goodU (u : Int) : Bool := u == 1 || u == 2 || u == 4
theorem goodU_iff (u : Int) : goodU u = true ↔ u = 1 ∨ u = 2 ∨ u = 4 := by unfold goodU; simp [or_assoc]
/-- One use is set. -/
def NN.setU (x : NN) (k : Nat) (b : Bool) : NN := match k with
  | 0 => { x with u0 := b } | 1 => { x with u1 := b } | 2 => { x with u2 := b } | 3 => { x with u3 := b } | _ => { x with u4 := b }
def useN (us : List Int) (x : NN) : NN := us.foldl (fun x u => x.setU u.toNat true) x
theorem useN_drop (us : List Int) (x : NN) (i : Nat) (hi : i < us.length) : useN (us.drop i) x = useN (us.drop (i + 1)) (x.setU us[i].toNat true) := by
  unfold useN
  rw [List.drop_eq_getElem_cons hi, List.foldl_cons]
theorem setU_page (x : NN) (k : Nat) (b : Bool) : (x.setU k b).page = x.page ∧ (x.setU k b).frame = x.frame := by
  unfold NN.setU
  split <;> exact ⟨rfl, rfl⟩
theorem useN_page (us : List Int) : ∀ x : NN, (useN us x).page = x.page ∧ (useN us x).frame = x.frame := by
  induction us with
  | nil => exact fun x => ⟨rfl, rfl⟩
  | cons u r ih =>
    intro x
    have h := ih (x.setU u.toNat true)
    have h2 := setU_page x u.toNat true
    exact ⟨h.1.trans h2.1, h.2.trans h2.2⟩
/-- An entry's block. -/
def XB (w : World) (b : Nat) (x : NN) : Prop := w.heap[b]? = some (.cells (cN x).toArray 62 (0, 0))
theorem XB.use {w : World} {b : Nat} {x : NN} (h : XB w b x) (k : Nat) (hk : k < 5) : w.cell? ⟨b, 2 + k, none⟩ = some (.bool (x.use k)) := by
  rw [blk_cell h]
  match k, hk with
  | 0, _ => rfl
  | 1, _ => rfl
  | 2, _ => rfl
  | 3, _ => rfl
  | 4, _ => rfl
theorem XB.put {w : World} {b : Nat} {x : NN} (h : XB w b x) (k : Nat) (hk : k < 5) (v : Bool) : XB (w.setCell ⟨b, 2 + k, none⟩ (.bool v)) b (x.setU k v) := by
  refine blk_put h (2 + k) (.bool v) ?_
  match k, hk with
  | 0, _ => rfl
  | 1, _ => rfl
  | 2, _ => rfl
  | 3, _ => rfl
  | 4, _ => rfl
theorem elemI {w : World} {B : Option Addr} {ps : List Int} (hP1 : Kd.C (Kd.int .i64) w B ps.length ps) (i : Nat) (hi : i < ps.length) : ∃ bd, B = some bd ∧ w.cell? (bd.add i) = some (.int .i64 ps[i]) := by
  obtain ⟨ad, cs, eA, hc1, hc2, hc3⟩ := hP1.get_ 0 (i : Int) (by omega) (by omega)
  refine ⟨ad, eA, ?_⟩
  have hk : cs = [.int .i64 ps[i]] := by
    have : ps.getD (i : Int).toNat 0 = ps[i] := by simp [hi]
    rw [this] at hc2
    exact hc2
  subst hk
  have := hc3 0 _ rfl
  simpa [Kd.int, Kd.scalar] using this

set_option maxHeartbeats 8000000 in
set_option maxRecDepth 100000 in
/-- A use that may not be. -/
theorem rnote_bad (A : Option Addr) (n c : Nat) (page frame : Int) (B : Option Addr) (cb : Nat) (us : List Int) (w : World) (hU : Kd.C (Kd.int .i64) w B us.length us) (hul : us.length ≤ 100000) (hbad : us.all goodU = false) :
    Calls Try.prog 16 #[.slice A n c, .int .i64 page, .int .i64 frame, .slice B us.length cb] w fun e w' => e = .returned (.tuple #[.slice A n c, .bool false]) ∧ Below w.heap.size w w' := by
  replace hU := Aside0.mk hU
  replace hul := Aside0.mk hul
  go_enter Try.func16, Try.ntmps16
  go_wp2
  go_loopg [11] us.length (fun kq v11 w' => ∃ (i : Nat) (y : NN), v11 = .int .i64 (i : Int) ∧ Aside0 (i + kq = us.length ∧ (us.drop i).all goodU = false) ∧ Aside0 (XB w' w.heap.size y) ∧ Aside0 (Below w.heap.size w w'))
  case atStart => exact ⟨0, ⟨page, frame, false, false, false, false, false⟩, rfl, ⟨by omega, by simpa using hbad⟩, ⟨blk_new w _⟩, ⟨below_alloc (Below.refl _ w) _⟩⟩
  case round =>
    obtain ⟨i, y, rfl, HK, HX, HB⟩ := hrel
    cases gk with
    | zero =>
      exfalso
      have h := HK.out
      rw [List.drop_eq_nil_of_le (by omega)] at h
      exact absurd h.2 (by decide)
    | succ k1 =>
      have hi : i < us.length := by have := HK.out; omega
      have d3 : decide ((i : Int) < ((us.length : Nat) : Int)) = true := decide_eq_true (by omega)
      have d4 : decide (0 ≤ (i : Int)) = true := decide_eq_true (by omega)
      have ws := Aside0.mk (w64s i (by have := hul.out; omega))
      obtain ⟨bd, eB, hc⟩ := elemI (Kd.C_below hU.out HB.out) i hi
      have hd := HK.out.2
      rw [List.drop_eq_getElem_cons hi, List.all_cons] at hd
      generalize us[i] = u at hc hd
      subst eB
      by_cases hg : goodU u = true
      · rw [hg, Bool.true_and] at hd
        replace hd := Aside0.mk hd
        have go1 : ∀ k : Nat, k < 5 → Aside0 (XB (wr.setCell ⟨w.heap.size, 2 + k, none⟩ (.bool true)) w.heap.size (y.setU k true)) ∧ Aside0 (Below w.heap.size w (wr.setCell ⟨w.heap.size, 2 + k, none⟩ (.bool true))) := fun k hk => ⟨⟨HX.out.put k hk true⟩, ⟨HB.out.setCell (Nat.le_refl _) _⟩⟩
        rcases (goodU_iff u).1 hg with rfl | rfl | rfl
        · have fz := blk_frozen HX.out 3
          have cx : wr.cell? ⟨w.heap.size, 3, none⟩ = some (.bool (y.use 1)) := HX.out.use 1 (by omega)
          have g := go1 1 (by omega)
          clear go1 hg
          go_wp2
          go_roundg k1
          case measure => omega
          case rel => exact ⟨i + 1, y.setU 1 true, by rw [ws.out], ⟨by have := HK.out; omega, hd.out⟩, g.1, g.2⟩
        · have fz := blk_frozen HX.out 4
          have cx : wr.cell? ⟨w.heap.size, 4, none⟩ = some (.bool (y.use 2)) := HX.out.use 2 (by omega)
          have g := go1 2 (by omega)
          clear go1 hg
          go_wp2
          go_roundg k1
          case measure => omega
          case rel => exact ⟨i + 1, y.setU 2 true, by rw [ws.out], ⟨by have := HK.out; omega, hd.out⟩, g.1, g.2⟩
        · have fz := blk_frozen HX.out 6
          have cx : wr.cell? ⟨w.heap.size, 6, none⟩ = some (.bool (y.use 4)) := HX.out.use 4 (by omega)
          have g := go1 4 (by omega)
          clear go1 hg
          go_wp2
          go_roundg k1
          case measure => omega
          case rel => exact ⟨i + 1, y.setU 4 true, by rw [ws.out], ⟨by have := HK.out; omega, hd.out⟩, g.1, g.2⟩
      · have hn : ¬ (u = 1 ∨ u = 2 ∨ u = 4) := fun h => hg ((goodU_iff u).2 h)
        have b1 : (u == 1) = false := beq_eq_false_iff_ne.mpr (fun h => hn (.inl h))
        have b2 : (u == 2) = false := beq_eq_false_iff_ne.mpr (fun h => hn (.inr (.inl h)))
        have b3 : (u == 4) = false := beq_eq_false_iff_ne.mpr (fun h => hn (.inr (.inr h)))
        have e1 : (u != 1) = true := by unfold bne; rw [b1]; rfl
        have e2 : (u != 2) = true := by unfold bne; rw [b2]; rfl
        have e3 : (u != 4) = true := by unfold bne; rw [b3]; rfl
        clear hn hd hg
        go_wp2
        go_returns
        exact ⟨rfl, HB.out⟩
end Go.Proofs.Ytfmkjdbhijeejaa.Hand
