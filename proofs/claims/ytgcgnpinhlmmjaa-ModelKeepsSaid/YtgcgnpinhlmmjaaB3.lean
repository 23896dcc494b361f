/- Same, over EqualFunc: walked; the document's Same: plain. -/
import Derived.Test.YtgcgnpinhlmmjaaAA
import Derived.Test.YtgcgnpinhlmmjaaRx7
namespace Go.Proofs.Ytgcgnpinhlmmjaa.Hand
set_option linter.unusedVariables false
set_option linter.unusedSimpArgs false
open Go.RowKit Go.Maps Go.Proofs.Ytgcgnpinhlmmjaa.R Go.Proofs.Ytgcgnpinhlmmjaa.Va Go.Proofs.YtgcgnpinhlmmjaaW.PrintWords Go.Proofs.YtgcgnpinhlmmjaaW.PrintLast Go.Proofs.YtgcgnpinhlmmjaaW.PrintMore

def strEq (a b : List Int) : Bool := (strOfNums a).toList == (strOfNums b).toList
def pgEq (x y : S35) : Bool := (x.f0 == y.f0) && ((x.f1 == y.f1) && strEq x.f2 y.f2)
def sameF (a b : List S35) : Nat → Nat → Bool
  | _, 0 => true
  | i, d + 1 => pgEq (rd_T35 a (i : Int)) (rd_T35 b (i : Int)) && sameF a b (i + 1) d
def sameB (a b : List S35) : Bool := if a.length = b.length then sameF a b 0 a.length else false
theorem pgEq_refl (x : S35) : pgEq x x = true := by unfold pgEq strEq; simp
theorem sameF_refl (a : List S35) (d : Nat) : ∀ i, sameF a a i d = true := by
  induction d with
  | zero => intro i; rfl
  | succ d ih => intro i; unfold sameF; rw [pgEq_refl, ih]; rfl
theorem sameB_refl (a : List S35) : sameB a a = true := by unfold sameB; rw [if_pos rfl, sameF_refl]
theorem rsame_l0 (a b : List S35) (hl : a.length = b.length) (hm : a.length ≤ 1000000) (d : Nat) : ∀ (k i : Nat), i + d = a.length → d < k → gunnyref38_Same.l0 k a b (i : Int) = some (sameF a b i d) := by
  induction d with
  | zero =>
    intro k i hi hk
    obtain ⟨k, rfl⟩ : ∃ m, k = m + 1 := ⟨k - 1, by omega⟩
    simp only [gunnyref38_Same.l0]
    rw [if_neg (by omega)]
    rfl
  | succ d ih =>
    intro k i hi hk
    obtain ⟨k, rfl⟩ : ∃ m, k = m + 1 := ⟨k - 1, by omega⟩
    simp only [gunnyref38_Same.l0]
    rw [if_pos (by omega), if_pos (by omega), if_pos (by omega), w64s i (by omega), ih k (i + 1) (by omega) (by omega)]
    show _ = some (pgEq (rd_T35 a (i : Int)) (rd_T35 b (i : Int)) && sameF a b (i + 1) d)
    unfold pgEq strEq
    by_cases c1 : (rd_T35 a (i : Int)).f0 = (rd_T35 b (i : Int)).f0
    · rw [if_pos c1, beq_iff_eq.mpr c1, Bool.true_and]
      by_cases c2 : (rd_T35 a (i : Int)).f1 = (rd_T35 b (i : Int)).f1
      · rw [if_pos c2, beq_iff_eq.mpr c2, Bool.true_and]
        by_cases c3 : (strOfNums (rd_T35 a (i : Int)).f2).toList = (strOfNums (rd_T35 b (i : Int)).f2).toList
        · rw [if_pos c3, beq_iff_eq.mpr c3, Bool.true_and]
        · rw [if_neg c3, beq_eq_false_iff_ne.mpr c3, Bool.false_and]
      · rw [if_neg c2, beq_eq_false_iff_ne.mpr c2, Bool.false_and, Bool.false_and]
    · rw [if_neg c1, beq_eq_false_iff_ne.mpr c1, Bool.false_and, Bool.false_and]
theorem rsame_some (a b : List S35) (hm : a.length ≤ 1000000) : gunnyref38_Same.f (a.length + 1) a b = some (sameB a b) := by
  unfold gunnyref38_Same.f sameB
  by_cases h : a.length = b.length
  · rw [if_pos (by omega), if_pos h]
    exact rsame_l0 a b h hm a.length _ 0 (by omega) (by omega)
  · rw [if_neg (by omega), if_neg h]

def C35 (x : S35) (A : Option Addr) (c : Nat) : Obj := .cells #[.int .u64 x.f0, .int .i64 x.f1, .slice A x.f2.length c] 35 (0, 0)
set_option maxHeartbeats 8000000 in
set_option maxRecDepth 100000 in
theorem pgeq_calls (x y : S35) (A1 : Option Addr) (c1 : Nat) (A2 : Option Addr) (c2 : Nat) (w : World) (h1 : Kd.C (Kd.int .u8) w A1 x.f2.length x.f2) (hc1 : x.f2.length ≤ c1) (h2 : Kd.C (Kd.int .u8) w A2 y.f2.length y.f2) (hc2 : y.f2.length ≤ c2) :
    Calls Try.prog 29 #[.agg #[.int .u64 x.f0, .int .i64 x.f1, .slice A1 x.f2.length c1], .agg #[.int .u64 y.f0, .int .i64 y.f1, .slice A2 y.f2.length c2]] w fun e w' => e = .returned (.bool (pgEq x y)) ∧ Below w.heap.size w w' := by
  have hb := below_alloc (below_alloc (Below.refl _ w) (C35 x A1 c1)) (C35 y A2 c2)
  have q0 := blk_alloc (blk_new w (C35 x A1 c1)) (C35 y A2 c2)
  have q1 := blk_new (w.alloc (C35 x A1 c1)) (C35 y A2 c2)
  rw [World.size_alloc] at q1
  have hE := bytes_Equal.calls A1 c1 x.f2 A2 c2 y.f2 _ _ (Kd.C_below h1 hb) hc1 (Kd.C_below h2 hb) hc2 rfl
  obtain ⟨r, hr⟩ : ∃ r, r = pgEq x y := ⟨_, rfl⟩
  rw [← hr]
  unfold pgEq strEq at hr
  unfold C35 at hb q0 q1 hE
  replace hb := Aside0.mk hb
  replace hE := Aside0.mk hE
  generalize ((strOfNums x.f2).toList == (strOfNums y.f2).toList) = b4 at hE hr
  clear h1 h2 hc1 hc2
  go_enter Try.func29, Try.ntmps29
  go_upto_region 1 with fail
  generalize (w.alloc (.cells #[.int .u64 x.f0, .int .i64 x.f1, .slice A1 x.f2.length c1] 35 (0, 0))).alloc (.cells #[.int .u64 y.f0, .int .i64 y.f1, .slice A2 y.f2.length c2] 35 (0, 0)) = w1 at *
  have k0 : w1.cell? ⟨w.heap.size, 0, none⟩ = some (.int .u64 x.f0) := (blk_cell q0 0).trans rfl
  have k1 : w1.cell? ⟨w.heap.size, 1, none⟩ = some (.int .i64 x.f1) := (blk_cell q0 1).trans rfl
  have k2 : w1.cell? ⟨w.heap.size, 2, none⟩ = some (.slice A1 x.f2.length c1) := (blk_cell q0 2).trans rfl
  have y0 : w1.cell? ⟨w.heap.size + 1, 0, none⟩ = some (.int .u64 y.f0) := (blk_cell q1 0).trans rfl
  have y1 : w1.cell? ⟨w.heap.size + 1, 1, none⟩ = some (.int .i64 y.f1) := (blk_cell q1 1).trans rfl
  have y2 : w1.cell? ⟨w.heap.size + 1, 2, none⟩ = some (.slice A2 y.f2.length c2) := (blk_cell q1 2).trans rfl
  clear q0 q1
  cases b0 : (x.f0 == y.f0) with
  | false =>
    rw [b0, Bool.false_and] at hr
    subst hr
    go_wp2
    go_returns
    exact ⟨rfl, hb.out⟩
  | true =>
    rw [b0, Bool.true_and] at hr
    cases b1 : (x.f1 == y.f1) with
    | false =>
      rw [b1, Bool.false_and] at hr
      subst hr
      go_wp2
      go_returns
      exact ⟨rfl, hb.out⟩
    | true =>
      rw [b1, Bool.true_and] at hr
      subst hr
      go_wp2_with (go_at_call 25; refine hE.out.mono ?_; rintro e w3 ⟨rfl, hd⟩; replace hd := Aside0.mk hd.below)
      go_returns
      exact ⟨rfl, hb.out.trans (Below_low hd.out hb.out.size)⟩
theorem at35 {w : World} {A : Option Addr} {xs : List S35} (h : Kd.C k35 w A xs.length xs) (i : Nat) (hi : i < xs.length) : ∃ ad A2 c2, A = some ad ∧ w.cell? (ad.add (i * 3)) = some (.int .u64 (rd_T35 xs i).f0) ∧ w.cell? ⟨(ad.add (i * 3)).block, (ad.add (i * 3)).off + 1, none⟩ = some (.int .i64 (rd_T35 xs i).f1) ∧ w.cell? ⟨(ad.add (i * 3)).block, (ad.add (i * 3)).off + 2, none⟩ = some (.slice A2 (rd_T35 xs i).f2.length c2) ∧ (rd_T35 xs i).f2.length ≤ c2 ∧ Kd.C (Kd.int .u8) w A2 (rd_T35 xs i).f2.length (rd_T35 xs i).f2 := by
  obtain ⟨ad, A2, c2, eA, z0, z1, z2, zl, z3⟩ := at_T35 h (i : Int) (by omega) (by omega)
  rw [Int.toNat_natCast] at z0 z1 z2
  exact ⟨ad, A2, c2, eA, z0, z1, z2, zl, z3⟩
set_option maxHeartbeats 8000000 in
set_option maxRecDepth 100000 in
theorem eqf_calls (a b : List S35) (A1 : Option Addr) (c1 : Nat) (A2 : Option Addr) (c2 : Nat) (w : World) (h1 : Kd.C k35 w A1 a.length a) (h2 : Kd.C k35 w A2 b.length b) (hm : a.length ≤ 1000000) :
    Calls Try.prog 28 #[.slice A1 a.length c1, .slice A2 b.length c2, .func (.func 29) #[] #[]] w fun e w' => e = .returned (.bool (sameB a b)) ∧ Below w.heap.size w w' := by
  obtain ⟨r, hr⟩ : ∃ r, r = sameB a b := ⟨_, rfl⟩
  rw [← hr]
  unfold sameB at hr
  by_cases hl : a.length = b.length
  · rw [if_pos hl] at hr
    have d0 : (((a.length : Nat) : Int) != ((b.length : Nat) : Int)) = false := bne_eq_false_iff_eq.mpr (by omega)
    have d0' : (a.length != b.length) = false := bne_eq_false_iff_eq.mpr hl
    have hR := Aside0.mk hr
    replace h1 := Aside0.mk h1
    replace h2 := Aside0.mk h2
    replace hl := Aside0.mk hl
    replace hm := Aside0.mk hm
    clear hr
    go_enter Try.func28, Try.ntmps28
    go_wp2
    go_loopg [17] a.length (fun kq v17 w' => ∃ i : Nat, v17 = .int .i64 (i : Int) ∧ Aside0 (i + kq = a.length ∧ r = sameF a b i kq) ∧ Aside0 (Below w.heap.size w w'))
    case atStart => exact ⟨0, rfl, ⟨by omega, hR.out⟩, ⟨Below.refl _ _⟩⟩
    case round =>
      clear hR
      obtain ⟨i, rfl, HK, HB⟩ := hrel
      cases gk with
      | zero =>
        obtain rfl : i = a.length := by have := HK.out.1; omega
        have er : r = true := HK.out.2
        subst er
        have d3 : decide (((a.length : Nat) : Int) < ((a.length : Nat) : Int)) = false := decide_eq_false (by omega)
        go_wp2
        go_returns
        exact ⟨rfl, HB.out⟩
      | succ k1 =>
        have hi : i < a.length := by have := HK.out.1; omega
        have hm' := hm.out
        have hl' := hl.out
        have hst : r = (pgEq (rd_T35 a (i : Int)) (rd_T35 b (i : Int)) && sameF a b (i + 1) k1) := HK.out.2
        obtain ⟨ad, B1, e1, eA, x0, x1, x2, xl, x3⟩ := at35 (Kd.C_below h1.out HB.out) i hi
        subst eA
        generalize rd_T35 a (i : Int) = x at *
        have hb0 := below_alloc (Below.refl _ wr) (.cells #[.int .u64 x.f0, .int .i64 x.f1, .slice B1 x.f2.length e1] 35 (0, 0))
        obtain ⟨ad2, B2, e2, eA, y0, y1, y2, yl, y3⟩ := at35 (Kd.C_below h2.out (below_step HB.out hb0)) i (by omega)
        subst eA
        generalize rd_T35 b (i : Int) = y at *
        have q0 := blk_new wr (.cells #[.int .u64 x.f0, .int .i64 x.f1, .slice B1 x.f2.length e1] 35 (0, 0))
        have X3 := Kd.C_below x3 hb0
        clear x3
        have d3 : decide ((i : Int) < (a.length : Int)) = true := decide_eq_true (by omega)
        have d3' : decide (i < a.length) = true := decide_eq_true hi
        have d4 : decide ((i : Int) < (b.length : Int)) = true := decide_eq_true (by omega)
        have d4' : decide (i < b.length) = true := decide_eq_true (by omega)
        have hi2 : i < b.length := by omega
        have i0 : (0 : Int) ≤ (i : Int) := by omega
        have ws := Aside0.mk (w64s i (by omega))
        replace hst := Aside0.mk hst
        replace hb0 := Aside0.mk hb0
        clear hm' hl'
        go_upto_region 6 with fail
        generalize wr.alloc (.cells #[.int .u64 x.f0, .int .i64 x.f1, .slice B1 x.f2.length e1] 35 (0, 0)) = wx at *
        have hb1 := below_alloc (Below.refl _ wx) (.cells #[.int .u64 y.f0, .int .i64 y.f1, .slice B2 y.f2.length e2] 35 (0, 0))
        have q1 := blk_alloc q0 (.cells #[.int .u64 y.f0, .int .i64 y.f1, .slice B2 y.f2.length e2] 35 (0, 0))
        have q2 := blk_new wx (.cells #[.int .u64 y.f0, .int .i64 y.f1, .slice B2 y.f2.length e2] 35 (0, 0))
        have hC := pgeq_calls x y B1 e1 B2 e2 _ (Kd.C_below X3 hb1) xl (Kd.C_below y3 hb1) yl
        have hbb := below_step HB.out (below_step hb0.out hb1)
        clear x0 x1 x2 xl y3 yl X3 q0
        go_upto_region 7 with fail
        clear y0 y1 y2
        generalize wx.alloc (.cells #[.int .u64 y.f0, .int .i64 y.f1, .slice B2 y.f2.length e2] 35 (0, 0)) = wy at *
        have x0 : wy.cell? ⟨wr.heap.size, 0, none⟩ = some (.int .u64 x.f0) := (blk_cell q1 0).trans rfl
        have x1 : wy.cell? ⟨wr.heap.size, 1, none⟩ = some (.int .i64 x.f1) := (blk_cell q1 1).trans rfl
        have x2 : wy.cell? ⟨wr.heap.size, 2, none⟩ = some (.slice B1 x.f2.length e1) := (blk_cell q1 2).trans rfl
        have y0 : wy.cell? ⟨wx.heap.size, 0, none⟩ = some (.int .u64 y.f0) := (blk_cell q2 0).trans rfl
        have y1 : wy.cell? ⟨wx.heap.size, 1, none⟩ = some (.int .i64 y.f1) := (blk_cell q2 1).trans rfl
        have y2 : wy.cell? ⟨wx.heap.size, 2, none⟩ = some (.slice B2 y.f2.length e2) := (blk_cell q2 2).trans rfl
        clear q1 q2 hb1
        replace hst := hst.out
        generalize pgEq x y = p at hC hst
        replace hC := Aside0.mk hC
        replace hbb := Aside0.mk hbb
        replace hst := Aside0.mk hst
        cases p with
        | false =>
          have er : r = false := hst.out
          subst er
          go_wp2_with (go_at_call 29; refine hC.out.mono ?_; rintro e w3 ⟨rfl, hd⟩; replace hd := Aside0.mk (below_step hbb.out hd))
          go_returns
          exact ⟨rfl, hd.out⟩
        | true =>
          have er : r = sameF a b (i + 1) k1 := by rw [hst.out, Bool.true_and]
          replace er := Aside0.mk er
          go_wp2_with (go_at_call 29; refine hC.out.mono ?_; rintro e w3 ⟨rfl, hd⟩; replace hd := Aside0.mk (below_step hbb.out hd))
          go_roundg k1
          case measure => omega
          case rel => exact ⟨i + 1, (by first | rw [ws.out] | rfl), ⟨by have := HK.out.1; omega, er.out⟩, hd⟩
  · rw [if_neg hl] at hr
    subst hr
    have d0 : (((a.length : Nat) : Int) != ((b.length : Nat) : Int)) = true := bne_iff_ne.mpr (by omega)
    have d0' : (a.length != b.length) = true := bne_iff_ne.mpr hl
    clear hl h1 h2
    go_enter Try.func28, Try.ntmps28
    go_wp2
    go_returns
    exact ⟨rfl, Below.refl _ _⟩
set_option maxHeartbeats 8000000 in
set_option maxRecDepth 100000 in
theorem same_calls (a b : List S35) (A1 : Option Addr) (c1 : Nat) (A2 : Option Addr) (c2 : Nat) (w : World) (h1 : Kd.C k35 w A1 a.length a) (h2 : Kd.C k35 w A2 b.length b) (hm : a.length ≤ 1000000) :
    Calls Try.prog 10 #[.slice A1 a.length c1, .slice A2 b.length c2] w fun e w' => e = .returned (.bool (sameB a b)) ∧ Below w.heap.size w w' := by
  have hC := Aside0.mk (eqf_calls a b A1 c1 A2 c2 w h1 h2 hm)
  clear h1 h2
  go_enter Try.func10, Try.ntmps10
  go_wp2_with (go_at_call 28; refine hC.out.mono ?_; rintro e w3 ⟨rfl, hd⟩; replace hd := Aside0.mk hd)
  go_returns
  exact ⟨rfl, hd.out⟩
theorem rsame_calls (a b : List S35) (A1 : Option Addr) (c1 : Nat) (A2 : Option Addr) (c2 : Nat) (w : World) (h1 : Kd.C k35 w A1 a.length a) (hc1 : a.length ≤ c1) (h2 : Kd.C k35 w A2 b.length b) (hc2 : b.length ≤ c2) (hm : a.length ≤ 1000000) :
    Calls Try.prog 11 #[.slice A1 a.length c1, .slice A2 b.length c2] w fun e w' => e = .returned (.bool (sameB a b)) ∧ Drawn0 w w' :=
  gunnyref38_Same.calls (a.length + 1) A1 c1 a A2 c2 b _ w h1 hc1 h2 hc2 (rsame_some a b hm)
end Go.Proofs.Ytgcgnpinhlmmjaa.Hand
