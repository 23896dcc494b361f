/- What the law ScriptTakes uses, part 14: contracts of the functions that it reaches, walked, and plain laws (put together by a program out of texts made for this claim). -/
import Derived.Test.YtldoaddeaiappaaKScriptTakes8
import Derived.Test.YtldoaddeaiappaaKScriptTakes11
import Derived.Test.YtldoaddeaiappaaKScriptTakes12
import Derived.Test.YtldoaddeaiappaaKScriptTakes13
import Derived.ArgAppend
import Derived.Below
import Derived.BigQuiet
import Derived.Deep.AppendLies
import Derived.Deep.CutBlock
import Derived.Deep.DeepCutAuto
import Derived.Deep.Draws
import Derived.Deep.LoopGhost
import Derived.Deep.OwnRows
import Derived.Deep.QuietTactic
import Derived.Deep.RegionHeld3
import Derived.Deep.RegionLaw
import Derived.Handy
import Derived.KernelRfl
import Derived.Laws.BitsAllLaws
import Derived.Laws.BitsLemmas
import Derived.Laws.BytesArg
import Derived.Laws.IdiomCopy
import Derived.Laws.MakeOwn
import Derived.Laws.OwnMore
import Derived.Laws.Rows
import Derived.Laws.Slices
import Derived.Laws.StructEq
import Derived.Lib.AppendStr
import Derived.Lib.ConvBytes
import Derived.Lib.SliceRun
import Derived.Maps.AppendAt
import Derived.OpenShut
import Derived.OrdersHeld
import Derived.OwnWalk
import Derived.RowKit
import Derived.RowKit3
import Derived.Tactics
import Derived.Test.YtldoaddeaiappaaProg
import Derived.WalkKit
import Derived.WideLaws
section
namespace Go.Proofs.Ytldoaddeaiappaa.Hand
set_option linter.unusedVariables false
set_option linter.unusedSimpArgs false
open Go.RowKit Go.Proofs.Ytldoaddeaiappaa.R Go.Proofs.Ytldoaddeaiappaa.Bits Go.Proofs.YtldoaddeaiappaaW.PrintWords Go.Proofs.YtldoaddeaiappaaW.PrintLast Go.Proofs.YtldoaddeaiappaaW.PrintMore
abbrev O39 (x0 x1 x2 x3 : Int) (v : Value) : Obj := .cells #[.int .i64 x0, .int .i64 x1, .int .i64 x2, .int .u64 x3, v] 39 (0, 0)
/-- The op at a place, by the fields h: none, if a byte lacks. -/
def opR (h : Bool × Bool × Bool × Bool) (b : List Int) (a : Nat) : Option (S39 × Nat) :=
  if h.1 = true ∧ b.length ≤ a + 1 then none else
  let p := if h.1 = true then a + 1 + 1 else a + 1
  if h.2.1 = true ∧ b.length < p + 8 then none else
  let q := if h.2.1 = true then p + 8 else p
  if h.2.2.1 = true ∧ b.length ≤ q then none else
  let r := if h.2.2.1 = true then q + 1 else q
  let f1 := if h.1 = true then rd b ((a + 1 : Nat) : Int) else 0
  let f2 := if h.2.2.1 = true then rd b (q : Int) else 0
  let f3 := if h.2.1 = true then ((val ((b.drop p).take 8) : Nat) : Int) else 0
  if h.2.2.2 = true then (if b.length ≤ r then none else if b.length < r + 1 + (rd b (r : Int)).toNat then none else some (⟨rd b (a : Int), f1, f2, f3, (b.drop (r + 1)).take (rd b (r : Int)).toNat⟩, r + 1 + (rd b (r : Int)).toNat))
  else some (⟨rd b (a : Int), f1, f2, f3, []⟩, r)
theorem hasK_cases (x : Int) : hasK x = (true, true, false, false) ∨ hasK x = (false, true, false, false) ∨ hasK x = (false, true, true, false) ∨ hasK x = (false, true, false, true) ∨ hasK x = (false, false, true, false) ∨ hasK x = (false, false, false, false) := by
  unfold hasK
  repeat (split; (first | exact .inl rfl | exact .inr (.inl rfl) | exact .inr (.inr (.inl rfl)) | exact .inr (.inr (.inr (.inl rfl))) | exact .inr (.inr (.inr (.inr (.inl rfl))))))
  exact .inr (.inr (.inr (.inr (.inr rfl))))
/-- What op hands back: nothing, or an op and the place behind it; its data are bytes that were there. -/
def OpBack (A0 : Addr) (b : List Int) (res : Option (S39 × Nat)) (e : Ending) : Prop := ∃ (o : S39) (n : Int) (A : Option Addr) (cd : Nat),
  e = .returned (.tuple #[.agg #[.int .i64 o.f0, .int .i64 o.f1, .int .i64 o.f2, .int .u64 o.f3, .slice A o.f4.length cd], .int .i64 n, .bool res.isSome]) ∧ (∀ W, Kd.C (Kd.int .u8) W (some A0) b.length b → Kd.C (Kd.int .u8) W A o.f4.length o.f4) ∧ o.f4.length ≤ cd ∧ ∀ r, res = some r → o = r.1 ∧ n = (r.2 : Int)
theorem rd_byte {b : List Int} (hB : isBytes b) (i : Nat) (h : i < b.length) : 0 ≤ rd b (i : Int) ∧ rd b (i : Int) < 256 := by
  rw [rd_at b i h]
  exact hB _ (List.getElem_mem h)
set_option maxHeartbeats 64000000 in
set_option maxRecDepth 100000 in
theorem op_calls (A : Addr) (c : Nat) (b : List Int) (w : World) (hC : Kd.C (Kd.int .u8) w (some A) b.length b) (hc : b.length ≤ c) (hl : b.length ≤ 9000) (hB : isBytes b) (a : Nat) (ha : a < b.length) :
    Calls Try.prog 39 #[.slice (some A) b.length c, .int .i64 (a : Int)] w fun e w' => OpBack A b (opR (hasK (rd b (a : Int))) b a) e ∧ Below w.heap.size w w' := by
  obtain ⟨h, hh⟩ : ∃ h, hasK (rd b (a : Int)) = h := ⟨_, rfl⟩
  rw [hh]
  obtain ⟨h0, h1, h2, h3⟩ := h
  obtain ⟨x, hx⟩ : ∃ x, x = rd b (a : Int) := ⟨_, rfl⟩
  have hx8 := rd_byte hB a ha
  rw [← hx] at hx8 hh
  have hrd := Aside0.mk (fun (w' : World) (hb : Below w.heap.size w w') (i : Nat) (hi : i < b.length) => (show w'.cell? (A.add i) = some (.int .u8 (rd b (i : Int))) by
    obtain ⟨ad, ea, ca⟩ := Kd.at_int (Kd.C_below hC hb) (i : Int) (by omega) (by omega)
    cases ea
    rw [Int.toNat_natCast] at ca
    exact ca))
  have hHas := Aside0.mk (fun w => gunnyref39_Has.calls 4 x h0 h1 h2 h3 w ((Has_some 4 x (by omega)).trans (by rw [hh])))
  have la : decide ((a : Int) < (b.length : Int)) = true := decide_eq_true (by omega)
  have lb : a < b.length := ha
  have lc : wrap64 x = x := wrap_id (by omega) (by omega)
  have ld : IntKind.i64.wrap x = x := (i64_w x).trans lc
  have ca1 := hrd.out _ (below_alloc (Below.refl _ w) (O39 0 0 0 0 (.slice none 0 0))) a ha
  rw [← hx] at ca1
  have hR1 := blk_new w (O39 0 0 0 0 (.slice none 0 0))
  have hb1 := below_alloc (Below.refl w.heap.size w) (O39 0 0 0 0 (.slice none 0 0))
  obtain ⟨w1, hw⟩ : ∃ w1, w1 = w.alloc (O39 0 0 0 0 (.slice none 0 0)) := ⟨_, rfl⟩
  rw [← hw] at hR1 hb1 ca1
  have hsz : w1.heap.size = w.heap.size + 1 := by rw [hw]; exact World.size_alloc _ _
  have hR2 := Aside0.mk (blk_alloc hR1 (O39 x 0 0 0 (.slice none 0 0)))
  have hO2 := blk_new w1 (O39 x 0 0 0 (.slice none 0 0))
  rw [hsz] at hO2
  replace hO2 := Aside0.mk hO2
  have hb2 := Aside0.mk (below_alloc hb1 (O39 x 0 0 0 (.slice none 0 0)))
  obtain ⟨p1, hp1⟩ : ∃ p1 : Nat, p1 = a + 1 := ⟨_, rfl⟩
  have wp1 : wrap64 ((a : Int) + 1) = (p1 : Int) := by unfold wrap64; omega
  have wq1 : IntKind.i64.wrap ((a : Int) + 1) = (p1 : Int) := (i64_w _).trans wp1
  replace hp1 := Aside0.mk hp1
  replace hC := Aside0.mk hC
  replace hc := Aside0.mk hc
  replace hl := Aside0.mk hl
  replace hB := Aside0.mk hB
  replace hh := Aside0.mk hh
  replace hx := Aside0.mk hx
  replace hx8 := Aside0.mk hx8
  replace ha := Aside0.mk ha
  replace hw := Aside0.mk hw
  clear hR1 hb1
  go_enter Try.func39, Try.ntmps39
  go_upto_region 1 with (fail)
  rw [← hw.out]
  go_upto_region 2 with (fail)
  go_upto_region 3 with (go_at_call 29; refine (hHas.out _).mono ?_; rintro e w3 ⟨rfl, hb3⟩; replace hb3 := Aside0.mk hb3)
  have hO3 := Aside0.mk (blk_alloc (blk_below hO2.out hb3.out) (.cells #[.bool h0, .bool h1, .bool h2, .bool h3] 62 (0, 0)))
  have hR3 := Aside0.mk (blk_alloc (blk_below hR2.out hb3.out) (.cells #[.bool h0, .bool h1, .bool h2, .bool h3] 62 (0, 0)))
  have hH3 := Aside0.mk (blk_new w3 (.cells #[.bool h0, .bool h1, .bool h2, .bool h3] 62 (0, 0)))
  have hb4 := Aside0.mk (below_alloc (below_step hb2.out hb3.out) (.cells #[.bool h0, .bool h1, .bool h2, .bool h3] 62 (0, 0)))
  have hgh := Aside0.mk (show w.heap.size + 1 < w3.heap.size by
    have h3 := hb3.out.size
    have h2 := blk_lt hO2.out
    exact Nat.lt_of_lt_of_le h2 h3)
  obtain ⟨gh, hgh0⟩ : ∃ gh, gh = w3.heap.size := ⟨_, rfl⟩
  rw [← hgh0] at hH3 hgh ⊢
  replace hgh0 := Aside0.mk hgh0
  clear ca1 hsz hR2 hO2 hb2 hb3
  generalize w3.alloc (.cells #[.bool h0, .bool h1, .bool h2, .bool h3] 62 (0, 0)) = w4 at hO3 hR3 hH3 hb4 ⊢
  have hhc := hasK_cases x
  rw [hh.out] at hhc
  rcases hhc with e | e | e | e | e | e
  · cases e
    have o0_w4 : w4.cell? ⟨w.heap.size + 1, 0, none⟩ = some (.int .i64 x) := (blk_cell hO3.out 0).trans rfl
    have o1_w4 : w4.cell? ⟨w.heap.size + 1, 1, none⟩ = some (.int .i64 0) := (blk_cell hO3.out 1).trans rfl
    have o2_w4 : w4.cell? ⟨w.heap.size + 1, 2, none⟩ = some (.int .i64 0) := (blk_cell hO3.out 2).trans rfl
    have o3_w4 : w4.cell? ⟨w.heap.size + 1, 3, none⟩ = some (.int .u64 0) := (blk_cell hO3.out 3).trans rfl
    have o4_w4 : w4.cell? ⟨w.heap.size + 1, 4, none⟩ = some (.slice none 0 0) := (blk_cell hO3.out 4).trans rfl
    have z0_w4 : w4.cell? ⟨w.heap.size, 0, none⟩ = some (.int .i64 0) := (blk_cell hR3.out 0).trans rfl
    have z1_w4 : w4.cell? ⟨w.heap.size, 1, none⟩ = some (.int .i64 0) := (blk_cell hR3.out 1).trans rfl
    have z2_w4 : w4.cell? ⟨w.heap.size, 2, none⟩ = some (.int .i64 0) := (blk_cell hR3.out 2).trans rfl
    have z3_w4 : w4.cell? ⟨w.heap.size, 3, none⟩ = some (.int .u64 0) := (blk_cell hR3.out 3).trans rfl
    have z4_w4 : w4.cell? ⟨w.heap.size, 4, none⟩ = some (.slice none 0 0) := (blk_cell hR3.out 4).trans rfl
    have b0_w4 : w4.cell? ⟨gh, 0, none⟩ = some (.bool true) := (blk_cell hH3.out 0).trans rfl
    have b1_w4 : w4.cell? ⟨gh, 1, none⟩ = some (.bool true) := (blk_cell hH3.out 1).trans rfl
    have b2_w4 : w4.cell? ⟨gh, 2, none⟩ = some (.bool false) := (blk_cell hH3.out 2).trans rfl
    have b3_w4 : w4.cell? ⟨gh, 3, none⟩ = some (.bool false) := (blk_cell hH3.out 3).trans rfl
    have zo_w4 := fun i => blk_frozen hO3.out i
    have zr_w4 := fun i => blk_frozen hR3.out i
    by_cases c0 : p1 < b.length
    case neg =>
      -- [[
      have d0 : decide (b.length ≤ p1) = true := decide_eq_true (by omega)
      have d0' : decide ((b.length : Int) ≤ (p1 : Int)) = true := decide_eq_true (by omega)
      go_wp2
      have opv : opR (true, true, false, false) b a = none := by
        unfold opR
        have := hp1.out
        simp only [Bool.false_eq_true, reduceIte, false_and, true_and, if_false, if_true]
        simp only [← hp1.out]
        simp only [← hx.out]
        rw [if_pos (by omega)]
      refine bodyPost_ret (results_row2 rfl _ _ w.heap.size 39 #[.int .i64 x, .int .i64 0, .int .i64 0, .int .u64 0, .slice none 0 0] (0, 0) _ rfl (by refine blk_put (cs := #[.int .i64 x, .int .i64 0, .int .i64 0, .int .u64 0, .slice none 0 0]) ?_ 4 _ rfl; refine blk_put (cs := #[.int .i64 x, .int .i64 0, .int .i64 0, .int .u64 0, .slice none 0 0]) ?_ 3 _ rfl; refine blk_put (cs := #[.int .i64 x, .int .i64 0, .int .i64 0, .int .u64 0, .slice none 0 0]) ?_ 2 _ rfl; refine blk_put (cs := #[.int .i64 x, .int .i64 0, .int .i64 0, .int .u64 0, .slice none 0 0]) ?_ 1 _ rfl; refine blk_put (cs := #[.int .i64 0, .int .i64 0, .int .i64 0, .int .u64 0, .slice none 0 0]) ?_ 0 _ rfl; exact hR3.out) Try.underlying39 (by kernel_rfl)) rfl ?_
      refine ⟨⟨⟨(x), (0), (0), (0), ([] : List Int)⟩, _, none, 0, by rw [opv]; rfl, (fun _ _ => Kd.C_nil _ _), (Nat.le_refl _), fun r hr => ?_⟩, by repeat (first | (with_reducible exact hb4.out) | (refine below_set ?_ (Nat.le_refl _)))⟩
      rw [opv] at hr
      cases hr
      -- ]]
    case pos =>
      have d0 : decide (b.length ≤ p1) = false := decide_eq_false (by omega)
      have d0' : decide ((b.length : Int) ≤ (p1 : Int)) = false := decide_eq_false (by omega)
      have lp1 : p1 < b.length := c0
      have mp1 : decide ((p1 : Int) < (b.length : Int)) = true := decide_eq_true (by omega)
      obtain ⟨x1, hx1⟩ : ∃ x1, x1 = rd b (p1 : Int) := ⟨_, rfl⟩
      have rx1 := hrd.out w4 hb4.out p1 lp1
      have tx1 := rd_byte hB.out p1 lp1
      rw [← hx1] at rx1 tx1
      have ux1 : wrap64 x1 = x1 := wrap_id (by omega) (by omega)
      have vx1 : IntKind.i64.wrap x1 = x1 := (i64_w x1).trans ux1
      replace tx1 := Aside0.mk tx1
      replace hx1 := Aside0.mk hx1
      obtain ⟨p_1, hp_1⟩ : ∃ p_1 : Nat, p_1 = p1 + 1 := ⟨_, rfl⟩
      have wp_1 : wrap64 ((p1 : Int) + 1) = (p_1 : Int) := by have := hl.out; have := ha.out; have := hp1.out; unfold wrap64; omega
      have xp_1 : IntKind.i64.wrap ((p1 : Int) + 1) = (p_1 : Int) := (i64_w _).trans wp_1
      replace hp_1 := Aside0.mk hp_1
      go_upto_region 8 with (fail)
      have hO_3 := Aside0.mk (blk_put (cs' := #[.int .i64 x, .int .i64 x1, .int .i64 0, .int .u64 0, .slice none 0 0]) hO3.out 1 (.int .i64 x1) rfl)
      have hR_4 := Aside0.mk (blk_far hR3.out (p := ⟨w.heap.size + 1, 1, none⟩) (by show w.heap.size ≠ w.heap.size + 1; omega) (.int .i64 x1))
      have hH_5 := Aside0.mk (blk_far hH3.out (p := ⟨w.heap.size + 1, 1, none⟩) (by have := hgh.out; show gh ≠ w.heap.size + 1; omega) (.int .i64 x1))
      have hb_6 := Aside0.mk (below_set hb4.out (j := 1) (v := .int .i64 x1) (Nat.le_succ _))
      clear o0_w4 o1_w4 o2_w4 o3_w4 o4_w4 z0_w4 z1_w4 z2_w4 z3_w4 z4_w4 b0_w4 b1_w4 b2_w4 b3_w4 zo_w4 zr_w4
      skip
      generalize w4.setCell ⟨w.heap.size + 1, 1, none⟩ (.int .i64 x1) = v_2 at hO_3 hR_4 hH_5 hb_6 ⊢
      have o0_v_2 : v_2.cell? ⟨w.heap.size + 1, 0, none⟩ = some (.int .i64 x) := (blk_cell hO_3.out 0).trans rfl
      have o1_v_2 : v_2.cell? ⟨w.heap.size + 1, 1, none⟩ = some (.int .i64 x1) := (blk_cell hO_3.out 1).trans rfl
      have o2_v_2 : v_2.cell? ⟨w.heap.size + 1, 2, none⟩ = some (.int .i64 0) := (blk_cell hO_3.out 2).trans rfl
      have o3_v_2 : v_2.cell? ⟨w.heap.size + 1, 3, none⟩ = some (.int .u64 0) := (blk_cell hO_3.out 3).trans rfl
      have o4_v_2 : v_2.cell? ⟨w.heap.size + 1, 4, none⟩ = some (.slice none 0 0) := (blk_cell hO_3.out 4).trans rfl
      have z0_v_2 : v_2.cell? ⟨w.heap.size, 0, none⟩ = some (.int .i64 0) := (blk_cell hR_4.out 0).trans rfl
      have z1_v_2 : v_2.cell? ⟨w.heap.size, 1, none⟩ = some (.int .i64 0) := (blk_cell hR_4.out 1).trans rfl
      have z2_v_2 : v_2.cell? ⟨w.heap.size, 2, none⟩ = some (.int .i64 0) := (blk_cell hR_4.out 2).trans rfl
      have z3_v_2 : v_2.cell? ⟨w.heap.size, 3, none⟩ = some (.int .u64 0) := (blk_cell hR_4.out 3).trans rfl
      have z4_v_2 : v_2.cell? ⟨w.heap.size, 4, none⟩ = some (.slice none 0 0) := (blk_cell hR_4.out 4).trans rfl
      have b0_v_2 : v_2.cell? ⟨gh, 0, none⟩ = some (.bool true) := (blk_cell hH_5.out 0).trans rfl
      have b1_v_2 : v_2.cell? ⟨gh, 1, none⟩ = some (.bool true) := (blk_cell hH_5.out 1).trans rfl
      have b2_v_2 : v_2.cell? ⟨gh, 2, none⟩ = some (.bool false) := (blk_cell hH_5.out 2).trans rfl
      have b3_v_2 : v_2.cell? ⟨gh, 3, none⟩ = some (.bool false) := (blk_cell hH_5.out 3).trans rfl
      have zo_v_2 := fun i => blk_frozen hO_3.out i
      have zr_v_2 := fun i => blk_frozen hR_4.out i
      obtain ⟨p_7, hp_7⟩ : ∃ p_7 : Nat, p_7 = p_1 + 8 := ⟨_, rfl⟩
      have wp_7 : wrap64 ((p_1 : Int) + 8) = (p_7 : Int) := by have := hl.out; have := ha.out; have := hp1.out; have := hp_1.out; unfold wrap64; omega
      have xp_7 : IntKind.i64.wrap ((p_1 : Int) + 8) = (p_7 : Int) := (i64_w _).trans wp_7
      replace hp_7 := Aside0.mk hp_7
      by_cases c1 : p_7 ≤ b.length
      case neg =>
        -- [[
        have d1 : decide (b.length < p_7) = true := decide_eq_true (by omega)
        have d1' : decide ((b.length : Int) < (p_7 : Int)) = true := decide_eq_true (by omega)
        go_wp2
        have opv : opR (true, true, false, false) b a = none := by
          unfold opR
          simp only [Bool.false_eq_true, reduceIte, false_and, true_and, if_false, if_true]
          simp only [← hp1.out]
          simp only [← hp_1.out]
          simp only [← hp_7.out]
          simp only [← hx.out]
          simp only [← hx1.out]
          rw [if_neg (by omega)]
          rw [if_pos (by omega)]
        refine bodyPost_ret (results_row2 rfl _ _ w.heap.size 39 #[.int .i64 x, .int .i64 x1, .int .i64 0, .int .u64 0, .slice none 0 0] (0, 0) _ rfl (by refine blk_put (cs := #[.int .i64 x, .int .i64 x1, .int .i64 0, .int .u64 0, .slice none 0 0]) ?_ 4 _ rfl; refine blk_put (cs := #[.int .i64 x, .int .i64 x1, .int .i64 0, .int .u64 0, .slice none 0 0]) ?_ 3 _ rfl; refine blk_put (cs := #[.int .i64 x, .int .i64 x1, .int .i64 0, .int .u64 0, .slice none 0 0]) ?_ 2 _ rfl; refine blk_put (cs := #[.int .i64 x, .int .i64 0, .int .i64 0, .int .u64 0, .slice none 0 0]) ?_ 1 _ rfl; refine blk_put (cs := #[.int .i64 0, .int .i64 0, .int .i64 0, .int .u64 0, .slice none 0 0]) ?_ 0 _ rfl; exact hR_4.out) Try.underlying39 (by kernel_rfl)) rfl ?_
        refine ⟨⟨⟨(x), (x1), (0), (0), ([] : List Int)⟩, _, none, 0, by rw [opv]; rfl, (fun _ _ => Kd.C_nil _ _), (Nat.le_refl _), fun r hr => ?_⟩, by repeat (first | (with_reducible exact hb_6.out) | (refine below_set ?_ (Nat.le_refl _)))⟩
        rw [opv] at hr
        cases hr
        -- ]]
      case pos =>
        have d1 : decide (b.length < p_7) = false := decide_eq_false (by omega)
        have d1' : decide ((b.length : Int) < (p_7 : Int)) = false := decide_eq_false (by omega)
        have hGet := Aside0.mk (gunnyref01_Get.calls 9 (some A) c b (p_1 : Int) 8 ((val ((b.drop p_1).take 8) : Nat) : Int) v_2 (Kd.C_below hC.out hb_6.out) hc.out (rget 9 b hB.out (by have := hl.out; omega) p_1 8 (by omega) (by omega) (by have := hp_7.out; omega) (by omega)))
        obtain ⟨x3, hx3⟩ : ∃ x3 : Int, x3 = ((val ((b.drop p_1).take 8) : Nat) : Int) := ⟨_, rfl⟩
        rw [← hx3] at hGet
        replace hx3 := Aside0.mk hx3
        go_upto_region 12 with (fail)
        go_upto_region 13 with (go_at_call 45; refine hGet.out.mono ?_; rintro e v_8 ⟨rfl, hdr⟩; have hO_9 := Aside0.mk (blk_below hO_3.out hdr.below); have hR_10 := Aside0.mk (blk_below hR_4.out hdr.below); have hH_11 := Aside0.mk (blk_below hH_5.out hdr.below); have hb_12 := Aside0.mk (below_step hb_6.out hdr.below); clear hdr; have o3_v_8 : v_8.cell? ⟨w.heap.size + 1, 3, none⟩ = some (.int .u64 0) := (blk_cell hO_9.out 3).trans rfl; have zo_v_8 := fun i => blk_frozen hO_9.out i)
        clear o3_v_8 zo_v_8
        clear o0_v_2 o1_v_2 o2_v_2 o3_v_2 o4_v_2 z0_v_2 z1_v_2 z2_v_2 z3_v_2 z4_v_2 b0_v_2 b1_v_2 b2_v_2 b3_v_2 zo_v_2 zr_v_2
        have o0_v_8 : v_8.cell? ⟨w.heap.size + 1, 0, none⟩ = some (.int .i64 x) := (blk_cell hO_9.out 0).trans rfl
        have o1_v_8 : v_8.cell? ⟨w.heap.size + 1, 1, none⟩ = some (.int .i64 x1) := (blk_cell hO_9.out 1).trans rfl
        have o2_v_8 : v_8.cell? ⟨w.heap.size + 1, 2, none⟩ = some (.int .i64 0) := (blk_cell hO_9.out 2).trans rfl
        have o3_v_8 : v_8.cell? ⟨w.heap.size + 1, 3, none⟩ = some (.int .u64 0) := (blk_cell hO_9.out 3).trans rfl
        have o4_v_8 : v_8.cell? ⟨w.heap.size + 1, 4, none⟩ = some (.slice none 0 0) := (blk_cell hO_9.out 4).trans rfl
        have z0_v_8 : v_8.cell? ⟨w.heap.size, 0, none⟩ = some (.int .i64 0) := (blk_cell hR_10.out 0).trans rfl
        have z1_v_8 : v_8.cell? ⟨w.heap.size, 1, none⟩ = some (.int .i64 0) := (blk_cell hR_10.out 1).trans rfl
        have z2_v_8 : v_8.cell? ⟨w.heap.size, 2, none⟩ = some (.int .i64 0) := (blk_cell hR_10.out 2).trans rfl
        have z3_v_8 : v_8.cell? ⟨w.heap.size, 3, none⟩ = some (.int .u64 0) := (blk_cell hR_10.out 3).trans rfl
        have z4_v_8 : v_8.cell? ⟨w.heap.size, 4, none⟩ = some (.slice none 0 0) := (blk_cell hR_10.out 4).trans rfl
        have b0_v_8 : v_8.cell? ⟨gh, 0, none⟩ = some (.bool true) := (blk_cell hH_11.out 0).trans rfl
        have b1_v_8 : v_8.cell? ⟨gh, 1, none⟩ = some (.bool true) := (blk_cell hH_11.out 1).trans rfl
        have b2_v_8 : v_8.cell? ⟨gh, 2, none⟩ = some (.bool false) := (blk_cell hH_11.out 2).trans rfl
        have b3_v_8 : v_8.cell? ⟨gh, 3, none⟩ = some (.bool false) := (blk_cell hH_11.out 3).trans rfl
        have zo_v_8 := fun i => blk_frozen hO_9.out i
        have zr_v_8 := fun i => blk_frozen hR_10.out i
        have hO_14 := Aside0.mk (blk_put (cs' := #[.int .i64 x, .int .i64 x1, .int .i64 0, .int .u64 x3, .slice none 0 0]) hO_9.out 3 (.int .u64 x3) rfl)
        have hR_15 := Aside0.mk (blk_far hR_10.out (p := ⟨w.heap.size + 1, 3, none⟩) (by show w.heap.size ≠ w.heap.size + 1; omega) (.int .u64 x3))
        have hH_16 := Aside0.mk (blk_far hH_11.out (p := ⟨w.heap.size + 1, 3, none⟩) (by have := hgh.out; show gh ≠ w.heap.size + 1; omega) (.int .u64 x3))
        have hb_17 := Aside0.mk (below_set hb_12.out (j := 3) (v := .int .u64 x3) (Nat.le_succ _))
        clear o0_v_8 o1_v_8 o2_v_8 o3_v_8 o4_v_8 z0_v_8 z1_v_8 z2_v_8 z3_v_8 z4_v_8 b0_v_8 b1_v_8 b2_v_8 b3_v_8 zo_v_8 zr_v_8
        clear hO_9 hR_10 hH_11 hb_12
        generalize v_8.setCell ⟨w.heap.size + 1, 3, none⟩ (.int .u64 x3) = v_13 at hO_14 hR_15 hH_16 hb_17 ⊢
        have o0_v_13 : v_13.cell? ⟨w.heap.size + 1, 0, none⟩ = some (.int .i64 x) := (blk_cell hO_14.out 0).trans rfl
        have o1_v_13 : v_13.cell? ⟨w.heap.size + 1, 1, none⟩ = some (.int .i64 x1) := (blk_cell hO_14.out 1).trans rfl
        have o2_v_13 : v_13.cell? ⟨w.heap.size + 1, 2, none⟩ = some (.int .i64 0) := (blk_cell hO_14.out 2).trans rfl
        have o3_v_13 : v_13.cell? ⟨w.heap.size + 1, 3, none⟩ = some (.int .u64 x3) := (blk_cell hO_14.out 3).trans rfl
        have o4_v_13 : v_13.cell? ⟨w.heap.size + 1, 4, none⟩ = some (.slice none 0 0) := (blk_cell hO_14.out 4).trans rfl
        have z0_v_13 : v_13.cell? ⟨w.heap.size, 0, none⟩ = some (.int .i64 0) := (blk_cell hR_15.out 0).trans rfl
        have z1_v_13 : v_13.cell? ⟨w.heap.size, 1, none⟩ = some (.int .i64 0) := (blk_cell hR_15.out 1).trans rfl
        have z2_v_13 : v_13.cell? ⟨w.heap.size, 2, none⟩ = some (.int .i64 0) := (blk_cell hR_15.out 2).trans rfl
        have z3_v_13 : v_13.cell? ⟨w.heap.size, 3, none⟩ = some (.int .u64 0) := (blk_cell hR_15.out 3).trans rfl
        have z4_v_13 : v_13.cell? ⟨w.heap.size, 4, none⟩ = some (.slice none 0 0) := (blk_cell hR_15.out 4).trans rfl
        have b0_v_13 : v_13.cell? ⟨gh, 0, none⟩ = some (.bool true) := (blk_cell hH_16.out 0).trans rfl
        have b1_v_13 : v_13.cell? ⟨gh, 1, none⟩ = some (.bool true) := (blk_cell hH_16.out 1).trans rfl
        have b2_v_13 : v_13.cell? ⟨gh, 2, none⟩ = some (.bool false) := (blk_cell hH_16.out 2).trans rfl
        have b3_v_13 : v_13.cell? ⟨gh, 3, none⟩ = some (.bool false) := (blk_cell hH_16.out 3).trans rfl
        have zo_v_13 := fun i => blk_frozen hO_14.out i
        have zr_v_13 := fun i => blk_frozen hR_15.out i
        -- [[
        go_wp2
        have opv : opR (true, true, false, false) b a = some (⟨x, x1, 0, x3, []⟩, p_7) := by
          unfold opR
          simp only [Bool.false_eq_true, reduceIte, false_and, true_and, if_false, if_true]
          simp only [← hp1.out]
          simp only [← hp_1.out]
          simp only [← hp_7.out]
          simp only [← hx.out]
          simp only [← hx1.out]
          simp only [← hx3.out]
          rw [if_neg (by omega)]
          rw [if_neg (by omega)]
        refine bodyPost_ret (results_row2 rfl _ _ w.heap.size 39 #[.int .i64 x, .int .i64 x1, .int .i64 0, .int .u64 x3, .slice none 0 0] (0, 0) _ rfl (by refine blk_put (cs := #[.int .i64 x, .int .i64 x1, .int .i64 0, .int .u64 x3, .slice none 0 0]) ?_ 4 _ rfl; refine blk_put (cs := #[.int .i64 x, .int .i64 x1, .int .i64 0, .int .u64 0, .slice none 0 0]) ?_ 3 _ rfl; refine blk_put (cs := #[.int .i64 x, .int .i64 x1, .int .i64 0, .int .u64 0, .slice none 0 0]) ?_ 2 _ rfl; refine blk_put (cs := #[.int .i64 x, .int .i64 0, .int .i64 0, .int .u64 0, .slice none 0 0]) ?_ 1 _ rfl; refine blk_put (cs := #[.int .i64 0, .int .i64 0, .int .i64 0, .int .u64 0, .slice none 0 0]) ?_ 0 _ rfl; exact hR_15.out) Try.underlying39 (by kernel_rfl)) rfl ?_
        refine ⟨⟨⟨(x), (x1), (0), (x3), ([] : List Int)⟩, _, none, 0, by rw [opv]; rfl, (fun _ _ => Kd.C_nil _ _), (Nat.le_refl _), fun r hr => ?_⟩, by repeat (first | (with_reducible exact hb_17.out) | (refine below_set ?_ (Nat.le_refl _)))⟩
        rw [opv] at hr
        cases hr
        exact ⟨rfl, rfl⟩
        -- ]]
  · cases e
    have o0_w4 : w4.cell? ⟨w.heap.size + 1, 0, none⟩ = some (.int .i64 x) := (blk_cell hO3.out 0).trans rfl
    have o1_w4 : w4.cell? ⟨w.heap.size + 1, 1, none⟩ = some (.int .i64 0) := (blk_cell hO3.out 1).trans rfl
    have o2_w4 : w4.cell? ⟨w.heap.size + 1, 2, none⟩ = some (.int .i64 0) := (blk_cell hO3.out 2).trans rfl
    have o3_w4 : w4.cell? ⟨w.heap.size + 1, 3, none⟩ = some (.int .u64 0) := (blk_cell hO3.out 3).trans rfl
    have o4_w4 : w4.cell? ⟨w.heap.size + 1, 4, none⟩ = some (.slice none 0 0) := (blk_cell hO3.out 4).trans rfl
    have z0_w4 : w4.cell? ⟨w.heap.size, 0, none⟩ = some (.int .i64 0) := (blk_cell hR3.out 0).trans rfl
    have z1_w4 : w4.cell? ⟨w.heap.size, 1, none⟩ = some (.int .i64 0) := (blk_cell hR3.out 1).trans rfl
    have z2_w4 : w4.cell? ⟨w.heap.size, 2, none⟩ = some (.int .i64 0) := (blk_cell hR3.out 2).trans rfl
    have z3_w4 : w4.cell? ⟨w.heap.size, 3, none⟩ = some (.int .u64 0) := (blk_cell hR3.out 3).trans rfl
    have z4_w4 : w4.cell? ⟨w.heap.size, 4, none⟩ = some (.slice none 0 0) := (blk_cell hR3.out 4).trans rfl
    have b0_w4 : w4.cell? ⟨gh, 0, none⟩ = some (.bool false) := (blk_cell hH3.out 0).trans rfl
    have b1_w4 : w4.cell? ⟨gh, 1, none⟩ = some (.bool true) := (blk_cell hH3.out 1).trans rfl
    have b2_w4 : w4.cell? ⟨gh, 2, none⟩ = some (.bool false) := (blk_cell hH3.out 2).trans rfl
    have b3_w4 : w4.cell? ⟨gh, 3, none⟩ = some (.bool false) := (blk_cell hH3.out 3).trans rfl
    have zo_w4 := fun i => blk_frozen hO3.out i
    have zr_w4 := fun i => blk_frozen hR3.out i
    obtain ⟨p_18, hp_18⟩ : ∃ p_18 : Nat, p_18 = p1 + 8 := ⟨_, rfl⟩
    have wp_18 : wrap64 ((p1 : Int) + 8) = (p_18 : Int) := by have := hl.out; have := ha.out; have := hp1.out; unfold wrap64; omega
    have xp_18 : IntKind.i64.wrap ((p1 : Int) + 8) = (p_18 : Int) := (i64_w _).trans wp_18
    replace hp_18 := Aside0.mk hp_18
    by_cases c1 : p_18 ≤ b.length
    case neg =>
      -- [[
      have d1 : decide (b.length < p_18) = true := decide_eq_true (by omega)
      have d1' : decide ((b.length : Int) < (p_18 : Int)) = true := decide_eq_true (by omega)
      go_wp2
      have opv : opR (false, true, false, false) b a = none := by
        unfold opR
        simp only [Bool.false_eq_true, reduceIte, false_and, true_and, if_false, if_true]
        simp only [← hp1.out]
        simp only [← hp_18.out]
        simp only [← hx.out]
        rw [if_pos (by omega)]
      refine bodyPost_ret (results_row2 rfl _ _ w.heap.size 39 #[.int .i64 x, .int .i64 0, .int .i64 0, .int .u64 0, .slice none 0 0] (0, 0) _ rfl (by refine blk_put (cs := #[.int .i64 x, .int .i64 0, .int .i64 0, .int .u64 0, .slice none 0 0]) ?_ 4 _ rfl; refine blk_put (cs := #[.int .i64 x, .int .i64 0, .int .i64 0, .int .u64 0, .slice none 0 0]) ?_ 3 _ rfl; refine blk_put (cs := #[.int .i64 x, .int .i64 0, .int .i64 0, .int .u64 0, .slice none 0 0]) ?_ 2 _ rfl; refine blk_put (cs := #[.int .i64 x, .int .i64 0, .int .i64 0, .int .u64 0, .slice none 0 0]) ?_ 1 _ rfl; refine blk_put (cs := #[.int .i64 0, .int .i64 0, .int .i64 0, .int .u64 0, .slice none 0 0]) ?_ 0 _ rfl; exact hR3.out) Try.underlying39 (by kernel_rfl)) rfl ?_
      refine ⟨⟨⟨(x), (0), (0), (0), ([] : List Int)⟩, _, none, 0, by rw [opv]; rfl, (fun _ _ => Kd.C_nil _ _), (Nat.le_refl _), fun r hr => ?_⟩, by repeat (first | (with_reducible exact hb4.out) | (refine below_set ?_ (Nat.le_refl _)))⟩
      rw [opv] at hr
      cases hr
      -- ]]
    case pos =>
      have d1 : decide (b.length < p_18) = false := decide_eq_false (by omega)
      have d1' : decide ((b.length : Int) < (p_18 : Int)) = false := decide_eq_false (by omega)
      have hGet := Aside0.mk (gunnyref01_Get.calls 9 (some A) c b (p1 : Int) 8 ((val ((b.drop p1).take 8) : Nat) : Int) w4 (Kd.C_below hC.out hb4.out) hc.out (rget 9 b hB.out (by have := hl.out; omega) p1 8 (by omega) (by omega) (by have := hp_18.out; omega) (by omega)))
      obtain ⟨x3, hx3⟩ : ∃ x3 : Int, x3 = ((val ((b.drop p1).take 8) : Nat) : Int) := ⟨_, rfl⟩
      rw [← hx3] at hGet
      replace hx3 := Aside0.mk hx3
      go_upto_region 12 with (fail)
      go_upto_region 13 with (go_at_call 45; refine hGet.out.mono ?_; rintro e v_19 ⟨rfl, hdr⟩; have hO_20 := Aside0.mk (blk_below hO3.out hdr.below); have hR_21 := Aside0.mk (blk_below hR3.out hdr.below); have hH_22 := Aside0.mk (blk_below hH3.out hdr.below); have hb_23 := Aside0.mk (below_step hb4.out hdr.below); clear hdr; have o3_v_19 : v_19.cell? ⟨w.heap.size + 1, 3, none⟩ = some (.int .u64 0) := (blk_cell hO_20.out 3).trans rfl; have zo_v_19 := fun i => blk_frozen hO_20.out i)
      clear o3_v_19 zo_v_19
      clear o0_w4 o1_w4 o2_w4 o3_w4 o4_w4 z0_w4 z1_w4 z2_w4 z3_w4 z4_w4 b0_w4 b1_w4 b2_w4 b3_w4 zo_w4 zr_w4
      have o0_v_19 : v_19.cell? ⟨w.heap.size + 1, 0, none⟩ = some (.int .i64 x) := (blk_cell hO_20.out 0).trans rfl
      have o1_v_19 : v_19.cell? ⟨w.heap.size + 1, 1, none⟩ = some (.int .i64 0) := (blk_cell hO_20.out 1).trans rfl
      have o2_v_19 : v_19.cell? ⟨w.heap.size + 1, 2, none⟩ = some (.int .i64 0) := (blk_cell hO_20.out 2).trans rfl
      have o3_v_19 : v_19.cell? ⟨w.heap.size + 1, 3, none⟩ = some (.int .u64 0) := (blk_cell hO_20.out 3).trans rfl
      have o4_v_19 : v_19.cell? ⟨w.heap.size + 1, 4, none⟩ = some (.slice none 0 0) := (blk_cell hO_20.out 4).trans rfl
      have z0_v_19 : v_19.cell? ⟨w.heap.size, 0, none⟩ = some (.int .i64 0) := (blk_cell hR_21.out 0).trans rfl
      have z1_v_19 : v_19.cell? ⟨w.heap.size, 1, none⟩ = some (.int .i64 0) := (blk_cell hR_21.out 1).trans rfl
      have z2_v_19 : v_19.cell? ⟨w.heap.size, 2, none⟩ = some (.int .i64 0) := (blk_cell hR_21.out 2).trans rfl
      have z3_v_19 : v_19.cell? ⟨w.heap.size, 3, none⟩ = some (.int .u64 0) := (blk_cell hR_21.out 3).trans rfl
      have z4_v_19 : v_19.cell? ⟨w.heap.size, 4, none⟩ = some (.slice none 0 0) := (blk_cell hR_21.out 4).trans rfl
      have b0_v_19 : v_19.cell? ⟨gh, 0, none⟩ = some (.bool false) := (blk_cell hH_22.out 0).trans rfl
      have b1_v_19 : v_19.cell? ⟨gh, 1, none⟩ = some (.bool true) := (blk_cell hH_22.out 1).trans rfl
      have b2_v_19 : v_19.cell? ⟨gh, 2, none⟩ = some (.bool false) := (blk_cell hH_22.out 2).trans rfl
      have b3_v_19 : v_19.cell? ⟨gh, 3, none⟩ = some (.bool false) := (blk_cell hH_22.out 3).trans rfl
      have zo_v_19 := fun i => blk_frozen hO_20.out i
      have zr_v_19 := fun i => blk_frozen hR_21.out i
      have hO_25 := Aside0.mk (blk_put (cs' := #[.int .i64 x, .int .i64 0, .int .i64 0, .int .u64 x3, .slice none 0 0]) hO_20.out 3 (.int .u64 x3) rfl)
      have hR_26 := Aside0.mk (blk_far hR_21.out (p := ⟨w.heap.size + 1, 3, none⟩) (by show w.heap.size ≠ w.heap.size + 1; omega) (.int .u64 x3))
      have hH_27 := Aside0.mk (blk_far hH_22.out (p := ⟨w.heap.size + 1, 3, none⟩) (by have := hgh.out; show gh ≠ w.heap.size + 1; omega) (.int .u64 x3))
      have hb_28 := Aside0.mk (below_set hb_23.out (j := 3) (v := .int .u64 x3) (Nat.le_succ _))
      clear o0_v_19 o1_v_19 o2_v_19 o3_v_19 o4_v_19 z0_v_19 z1_v_19 z2_v_19 z3_v_19 z4_v_19 b0_v_19 b1_v_19 b2_v_19 b3_v_19 zo_v_19 zr_v_19
      clear hO_20 hR_21 hH_22 hb_23
      generalize v_19.setCell ⟨w.heap.size + 1, 3, none⟩ (.int .u64 x3) = v_24 at hO_25 hR_26 hH_27 hb_28 ⊢
      have o0_v_24 : v_24.cell? ⟨w.heap.size + 1, 0, none⟩ = some (.int .i64 x) := (blk_cell hO_25.out 0).trans rfl
      have o1_v_24 : v_24.cell? ⟨w.heap.size + 1, 1, none⟩ = some (.int .i64 0) := (blk_cell hO_25.out 1).trans rfl
      have o2_v_24 : v_24.cell? ⟨w.heap.size + 1, 2, none⟩ = some (.int .i64 0) := (blk_cell hO_25.out 2).trans rfl
      have o3_v_24 : v_24.cell? ⟨w.heap.size + 1, 3, none⟩ = some (.int .u64 x3) := (blk_cell hO_25.out 3).trans rfl
      have o4_v_24 : v_24.cell? ⟨w.heap.size + 1, 4, none⟩ = some (.slice none 0 0) := (blk_cell hO_25.out 4).trans rfl
      have z0_v_24 : v_24.cell? ⟨w.heap.size, 0, none⟩ = some (.int .i64 0) := (blk_cell hR_26.out 0).trans rfl
      have z1_v_24 : v_24.cell? ⟨w.heap.size, 1, none⟩ = some (.int .i64 0) := (blk_cell hR_26.out 1).trans rfl
      have z2_v_24 : v_24.cell? ⟨w.heap.size, 2, none⟩ = some (.int .i64 0) := (blk_cell hR_26.out 2).trans rfl
      have z3_v_24 : v_24.cell? ⟨w.heap.size, 3, none⟩ = some (.int .u64 0) := (blk_cell hR_26.out 3).trans rfl
      have z4_v_24 : v_24.cell? ⟨w.heap.size, 4, none⟩ = some (.slice none 0 0) := (blk_cell hR_26.out 4).trans rfl
      have b0_v_24 : v_24.cell? ⟨gh, 0, none⟩ = some (.bool false) := (blk_cell hH_27.out 0).trans rfl
      have b1_v_24 : v_24.cell? ⟨gh, 1, none⟩ = some (.bool true) := (blk_cell hH_27.out 1).trans rfl
      have b2_v_24 : v_24.cell? ⟨gh, 2, none⟩ = some (.bool false) := (blk_cell hH_27.out 2).trans rfl
      have b3_v_24 : v_24.cell? ⟨gh, 3, none⟩ = some (.bool false) := (blk_cell hH_27.out 3).trans rfl
      have zo_v_24 := fun i => blk_frozen hO_25.out i
      have zr_v_24 := fun i => blk_frozen hR_26.out i
      -- [[
      go_wp2
      have opv : opR (false, true, false, false) b a = some (⟨x, 0, 0, x3, []⟩, p_18) := by
        unfold opR
        simp only [Bool.false_eq_true, reduceIte, false_and, true_and, if_false, if_true]
        simp only [← hp1.out]
        simp only [← hp_18.out]
        simp only [← hx.out]
        simp only [← hx3.out]
        rw [if_neg (by omega)]
      refine bodyPost_ret (results_row2 rfl _ _ w.heap.size 39 #[.int .i64 x, .int .i64 0, .int .i64 0, .int .u64 x3, .slice none 0 0] (0, 0) _ rfl (by refine blk_put (cs := #[.int .i64 x, .int .i64 0, .int .i64 0, .int .u64 x3, .slice none 0 0]) ?_ 4 _ rfl; refine blk_put (cs := #[.int .i64 x, .int .i64 0, .int .i64 0, .int .u64 0, .slice none 0 0]) ?_ 3 _ rfl; refine blk_put (cs := #[.int .i64 x, .int .i64 0, .int .i64 0, .int .u64 0, .slice none 0 0]) ?_ 2 _ rfl; refine blk_put (cs := #[.int .i64 x, .int .i64 0, .int .i64 0, .int .u64 0, .slice none 0 0]) ?_ 1 _ rfl; refine blk_put (cs := #[.int .i64 0, .int .i64 0, .int .i64 0, .int .u64 0, .slice none 0 0]) ?_ 0 _ rfl; exact hR_26.out) Try.underlying39 (by kernel_rfl)) rfl ?_
      refine ⟨⟨⟨(x), (0), (0), (x3), ([] : List Int)⟩, _, none, 0, by rw [opv]; rfl, (fun _ _ => Kd.C_nil _ _), (Nat.le_refl _), fun r hr => ?_⟩, by repeat (first | (with_reducible exact hb_28.out) | (refine below_set ?_ (Nat.le_refl _)))⟩
      rw [opv] at hr
      cases hr
      exact ⟨rfl, rfl⟩
      -- ]]
  · cases e
    have o0_w4 : w4.cell? ⟨w.heap.size + 1, 0, none⟩ = some (.int .i64 x) := (blk_cell hO3.out 0).trans rfl
    have o1_w4 : w4.cell? ⟨w.heap.size + 1, 1, none⟩ = some (.int .i64 0) := (blk_cell hO3.out 1).trans rfl
    have o2_w4 : w4.cell? ⟨w.heap.size + 1, 2, none⟩ = some (.int .i64 0) := (blk_cell hO3.out 2).trans rfl
    have o3_w4 : w4.cell? ⟨w.heap.size + 1, 3, none⟩ = some (.int .u64 0) := (blk_cell hO3.out 3).trans rfl
    have o4_w4 : w4.cell? ⟨w.heap.size + 1, 4, none⟩ = some (.slice none 0 0) := (blk_cell hO3.out 4).trans rfl
    have z0_w4 : w4.cell? ⟨w.heap.size, 0, none⟩ = some (.int .i64 0) := (blk_cell hR3.out 0).trans rfl
    have z1_w4 : w4.cell? ⟨w.heap.size, 1, none⟩ = some (.int .i64 0) := (blk_cell hR3.out 1).trans rfl
    have z2_w4 : w4.cell? ⟨w.heap.size, 2, none⟩ = some (.int .i64 0) := (blk_cell hR3.out 2).trans rfl
    have z3_w4 : w4.cell? ⟨w.heap.size, 3, none⟩ = some (.int .u64 0) := (blk_cell hR3.out 3).trans rfl
    have z4_w4 : w4.cell? ⟨w.heap.size, 4, none⟩ = some (.slice none 0 0) := (blk_cell hR3.out 4).trans rfl
    have b0_w4 : w4.cell? ⟨gh, 0, none⟩ = some (.bool false) := (blk_cell hH3.out 0).trans rfl
    have b1_w4 : w4.cell? ⟨gh, 1, none⟩ = some (.bool true) := (blk_cell hH3.out 1).trans rfl
    have b2_w4 : w4.cell? ⟨gh, 2, none⟩ = some (.bool true) := (blk_cell hH3.out 2).trans rfl
    have b3_w4 : w4.cell? ⟨gh, 3, none⟩ = some (.bool false) := (blk_cell hH3.out 3).trans rfl
    have zo_w4 := fun i => blk_frozen hO3.out i
    have zr_w4 := fun i => blk_frozen hR3.out i
    obtain ⟨p_29, hp_29⟩ : ∃ p_29 : Nat, p_29 = p1 + 8 := ⟨_, rfl⟩
    have wp_29 : wrap64 ((p1 : Int) + 8) = (p_29 : Int) := by have := hl.out; have := ha.out; have := hp1.out; unfold wrap64; omega
    have xp_29 : IntKind.i64.wrap ((p1 : Int) + 8) = (p_29 : Int) := (i64_w _).trans wp_29
    replace hp_29 := Aside0.mk hp_29
    by_cases c1 : p_29 ≤ b.length
    case neg =>
      -- [[
      have d1 : decide (b.length < p_29) = true := decide_eq_true (by omega)
      have d1' : decide ((b.length : Int) < (p_29 : Int)) = true := decide_eq_true (by omega)
      go_wp2
      have opv : opR (false, true, true, false) b a = none := by
        unfold opR
        simp only [Bool.false_eq_true, reduceIte, false_and, true_and, if_false, if_true]
        simp only [← hp1.out]
        simp only [← hp_29.out]
        simp only [← hx.out]
        rw [if_pos (by omega)]
      refine bodyPost_ret (results_row2 rfl _ _ w.heap.size 39 #[.int .i64 x, .int .i64 0, .int .i64 0, .int .u64 0, .slice none 0 0] (0, 0) _ rfl (by refine blk_put (cs := #[.int .i64 x, .int .i64 0, .int .i64 0, .int .u64 0, .slice none 0 0]) ?_ 4 _ rfl; refine blk_put (cs := #[.int .i64 x, .int .i64 0, .int .i64 0, .int .u64 0, .slice none 0 0]) ?_ 3 _ rfl; refine blk_put (cs := #[.int .i64 x, .int .i64 0, .int .i64 0, .int .u64 0, .slice none 0 0]) ?_ 2 _ rfl; refine blk_put (cs := #[.int .i64 x, .int .i64 0, .int .i64 0, .int .u64 0, .slice none 0 0]) ?_ 1 _ rfl; refine blk_put (cs := #[.int .i64 0, .int .i64 0, .int .i64 0, .int .u64 0, .slice none 0 0]) ?_ 0 _ rfl; exact hR3.out) Try.underlying39 (by kernel_rfl)) rfl ?_
      refine ⟨⟨⟨(x), (0), (0), (0), ([] : List Int)⟩, _, none, 0, by rw [opv]; rfl, (fun _ _ => Kd.C_nil _ _), (Nat.le_refl _), fun r hr => ?_⟩, by repeat (first | (with_reducible exact hb4.out) | (refine below_set ?_ (Nat.le_refl _)))⟩
      rw [opv] at hr
      cases hr
      -- ]]
    case pos =>
      have d1 : decide (b.length < p_29) = false := decide_eq_false (by omega)
      have d1' : decide ((b.length : Int) < (p_29 : Int)) = false := decide_eq_false (by omega)
      have hGet := Aside0.mk (gunnyref01_Get.calls 9 (some A) c b (p1 : Int) 8 ((val ((b.drop p1).take 8) : Nat) : Int) w4 (Kd.C_below hC.out hb4.out) hc.out (rget 9 b hB.out (by have := hl.out; omega) p1 8 (by omega) (by omega) (by have := hp_29.out; omega) (by omega)))
      obtain ⟨x3, hx3⟩ : ∃ x3 : Int, x3 = ((val ((b.drop p1).take 8) : Nat) : Int) := ⟨_, rfl⟩
      rw [← hx3] at hGet
      replace hx3 := Aside0.mk hx3
      go_upto_region 12 with (fail)
      go_upto_region 13 with (go_at_call 45; refine hGet.out.mono ?_; rintro e v_30 ⟨rfl, hdr⟩; have hO_31 := Aside0.mk (blk_below hO3.out hdr.below); have hR_32 := Aside0.mk (blk_below hR3.out hdr.below); have hH_33 := Aside0.mk (blk_below hH3.out hdr.below); have hb_34 := Aside0.mk (below_step hb4.out hdr.below); clear hdr; have o3_v_30 : v_30.cell? ⟨w.heap.size + 1, 3, none⟩ = some (.int .u64 0) := (blk_cell hO_31.out 3).trans rfl; have zo_v_30 := fun i => blk_frozen hO_31.out i)
      clear o3_v_30 zo_v_30
      clear o0_w4 o1_w4 o2_w4 o3_w4 o4_w4 z0_w4 z1_w4 z2_w4 z3_w4 z4_w4 b0_w4 b1_w4 b2_w4 b3_w4 zo_w4 zr_w4
      have o0_v_30 : v_30.cell? ⟨w.heap.size + 1, 0, none⟩ = some (.int .i64 x) := (blk_cell hO_31.out 0).trans rfl
      have o1_v_30 : v_30.cell? ⟨w.heap.size + 1, 1, none⟩ = some (.int .i64 0) := (blk_cell hO_31.out 1).trans rfl
      have o2_v_30 : v_30.cell? ⟨w.heap.size + 1, 2, none⟩ = some (.int .i64 0) := (blk_cell hO_31.out 2).trans rfl
      have o3_v_30 : v_30.cell? ⟨w.heap.size + 1, 3, none⟩ = some (.int .u64 0) := (blk_cell hO_31.out 3).trans rfl
      have o4_v_30 : v_30.cell? ⟨w.heap.size + 1, 4, none⟩ = some (.slice none 0 0) := (blk_cell hO_31.out 4).trans rfl
      have z0_v_30 : v_30.cell? ⟨w.heap.size, 0, none⟩ = some (.int .i64 0) := (blk_cell hR_32.out 0).trans rfl
      have z1_v_30 : v_30.cell? ⟨w.heap.size, 1, none⟩ = some (.int .i64 0) := (blk_cell hR_32.out 1).trans rfl
      have z2_v_30 : v_30.cell? ⟨w.heap.size, 2, none⟩ = some (.int .i64 0) := (blk_cell hR_32.out 2).trans rfl
      have z3_v_30 : v_30.cell? ⟨w.heap.size, 3, none⟩ = some (.int .u64 0) := (blk_cell hR_32.out 3).trans rfl
      have z4_v_30 : v_30.cell? ⟨w.heap.size, 4, none⟩ = some (.slice none 0 0) := (blk_cell hR_32.out 4).trans rfl
      have b0_v_30 : v_30.cell? ⟨gh, 0, none⟩ = some (.bool false) := (blk_cell hH_33.out 0).trans rfl
      have b1_v_30 : v_30.cell? ⟨gh, 1, none⟩ = some (.bool true) := (blk_cell hH_33.out 1).trans rfl
      have b2_v_30 : v_30.cell? ⟨gh, 2, none⟩ = some (.bool true) := (blk_cell hH_33.out 2).trans rfl
      have b3_v_30 : v_30.cell? ⟨gh, 3, none⟩ = some (.bool false) := (blk_cell hH_33.out 3).trans rfl
      have zo_v_30 := fun i => blk_frozen hO_31.out i
      have zr_v_30 := fun i => blk_frozen hR_32.out i
      have hO_36 := Aside0.mk (blk_put (cs' := #[.int .i64 x, .int .i64 0, .int .i64 0, .int .u64 x3, .slice none 0 0]) hO_31.out 3 (.int .u64 x3) rfl)
      have hR_37 := Aside0.mk (blk_far hR_32.out (p := ⟨w.heap.size + 1, 3, none⟩) (by show w.heap.size ≠ w.heap.size + 1; omega) (.int .u64 x3))
      have hH_38 := Aside0.mk (blk_far hH_33.out (p := ⟨w.heap.size + 1, 3, none⟩) (by have := hgh.out; show gh ≠ w.heap.size + 1; omega) (.int .u64 x3))
      have hb_39 := Aside0.mk (below_set hb_34.out (j := 3) (v := .int .u64 x3) (Nat.le_succ _))
      clear o0_v_30 o1_v_30 o2_v_30 o3_v_30 o4_v_30 z0_v_30 z1_v_30 z2_v_30 z3_v_30 z4_v_30 b0_v_30 b1_v_30 b2_v_30 b3_v_30 zo_v_30 zr_v_30
      clear hO_31 hR_32 hH_33 hb_34
      generalize v_30.setCell ⟨w.heap.size + 1, 3, none⟩ (.int .u64 x3) = v_35 at hO_36 hR_37 hH_38 hb_39 ⊢
      have o0_v_35 : v_35.cell? ⟨w.heap.size + 1, 0, none⟩ = some (.int .i64 x) := (blk_cell hO_36.out 0).trans rfl
      have o1_v_35 : v_35.cell? ⟨w.heap.size + 1, 1, none⟩ = some (.int .i64 0) := (blk_cell hO_36.out 1).trans rfl
      have o2_v_35 : v_35.cell? ⟨w.heap.size + 1, 2, none⟩ = some (.int .i64 0) := (blk_cell hO_36.out 2).trans rfl
      have o3_v_35 : v_35.cell? ⟨w.heap.size + 1, 3, none⟩ = some (.int .u64 x3) := (blk_cell hO_36.out 3).trans rfl
      have o4_v_35 : v_35.cell? ⟨w.heap.size + 1, 4, none⟩ = some (.slice none 0 0) := (blk_cell hO_36.out 4).trans rfl
      have z0_v_35 : v_35.cell? ⟨w.heap.size, 0, none⟩ = some (.int .i64 0) := (blk_cell hR_37.out 0).trans rfl
      have z1_v_35 : v_35.cell? ⟨w.heap.size, 1, none⟩ = some (.int .i64 0) := (blk_cell hR_37.out 1).trans rfl
      have z2_v_35 : v_35.cell? ⟨w.heap.size, 2, none⟩ = some (.int .i64 0) := (blk_cell hR_37.out 2).trans rfl
      have z3_v_35 : v_35.cell? ⟨w.heap.size, 3, none⟩ = some (.int .u64 0) := (blk_cell hR_37.out 3).trans rfl
      have z4_v_35 : v_35.cell? ⟨w.heap.size, 4, none⟩ = some (.slice none 0 0) := (blk_cell hR_37.out 4).trans rfl
      have b0_v_35 : v_35.cell? ⟨gh, 0, none⟩ = some (.bool false) := (blk_cell hH_38.out 0).trans rfl
      have b1_v_35 : v_35.cell? ⟨gh, 1, none⟩ = some (.bool true) := (blk_cell hH_38.out 1).trans rfl
      have b2_v_35 : v_35.cell? ⟨gh, 2, none⟩ = some (.bool true) := (blk_cell hH_38.out 2).trans rfl
      have b3_v_35 : v_35.cell? ⟨gh, 3, none⟩ = some (.bool false) := (blk_cell hH_38.out 3).trans rfl
      have zo_v_35 := fun i => blk_frozen hO_36.out i
      have zr_v_35 := fun i => blk_frozen hR_37.out i
      by_cases c2 : p_29 < b.length
      case neg =>
        -- [[
        have d2 : decide (b.length ≤ p_29) = true := decide_eq_true (by omega)
        have d2' : decide ((b.length : Int) ≤ (p_29 : Int)) = true := decide_eq_true (by omega)
        go_wp2
        have opv : opR (false, true, true, false) b a = none := by
          unfold opR
          simp only [Bool.false_eq_true, reduceIte, false_and, true_and, if_false, if_true]
          simp only [← hp1.out]
          simp only [← hp_29.out]
          simp only [← hx.out]
          simp only [← hx3.out]
          rw [if_neg (by omega)]
          rw [if_pos (by omega)]
        refine bodyPost_ret (results_row2 rfl _ _ w.heap.size 39 #[.int .i64 x, .int .i64 0, .int .i64 0, .int .u64 x3, .slice none 0 0] (0, 0) _ rfl (by refine blk_put (cs := #[.int .i64 x, .int .i64 0, .int .i64 0, .int .u64 x3, .slice none 0 0]) ?_ 4 _ rfl; refine blk_put (cs := #[.int .i64 x, .int .i64 0, .int .i64 0, .int .u64 0, .slice none 0 0]) ?_ 3 _ rfl; refine blk_put (cs := #[.int .i64 x, .int .i64 0, .int .i64 0, .int .u64 0, .slice none 0 0]) ?_ 2 _ rfl; refine blk_put (cs := #[.int .i64 x, .int .i64 0, .int .i64 0, .int .u64 0, .slice none 0 0]) ?_ 1 _ rfl; refine blk_put (cs := #[.int .i64 0, .int .i64 0, .int .i64 0, .int .u64 0, .slice none 0 0]) ?_ 0 _ rfl; exact hR_37.out) Try.underlying39 (by kernel_rfl)) rfl ?_
        refine ⟨⟨⟨(x), (0), (0), (x3), ([] : List Int)⟩, _, none, 0, by rw [opv]; rfl, (fun _ _ => Kd.C_nil _ _), (Nat.le_refl _), fun r hr => ?_⟩, by repeat (first | (with_reducible exact hb_39.out) | (refine below_set ?_ (Nat.le_refl _)))⟩
        rw [opv] at hr
        cases hr
        -- ]]
      case pos =>
        have d2 : decide (b.length ≤ p_29) = false := decide_eq_false (by omega)
        have d2' : decide ((b.length : Int) ≤ (p_29 : Int)) = false := decide_eq_false (by omega)
        have lp_29 : p_29 < b.length := c2
        have mp_29 : decide ((p_29 : Int) < (b.length : Int)) = true := decide_eq_true (by omega)
        obtain ⟨x2, hx2⟩ : ∃ x2, x2 = rd b (p_29 : Int) := ⟨_, rfl⟩
        have rx2 := hrd.out v_35 hb_39.out p_29 lp_29
        have tx2 := rd_byte hB.out p_29 lp_29
        rw [← hx2] at rx2 tx2
        have ux2 : wrap64 x2 = x2 := wrap_id (by omega) (by omega)
        have vx2 : IntKind.i64.wrap x2 = x2 := (i64_w x2).trans ux2
        replace tx2 := Aside0.mk tx2
        replace hx2 := Aside0.mk hx2
        obtain ⟨p_40, hp_40⟩ : ∃ p_40 : Nat, p_40 = p_29 + 1 := ⟨_, rfl⟩
        have wp_40 : wrap64 ((p_29 : Int) + 1) = (p_40 : Int) := by have := hl.out; have := c2; unfold wrap64; omega
        have xp_40 : IntKind.i64.wrap ((p_29 : Int) + 1) = (p_40 : Int) := (i64_w _).trans wp_40
        replace hp_40 := Aside0.mk hp_40
        go_upto_region 18 with (fail)
        have hO_42 := Aside0.mk (blk_put (cs' := #[.int .i64 x, .int .i64 0, .int .i64 x2, .int .u64 x3, .slice none 0 0]) hO_36.out 2 (.int .i64 x2) rfl)
        have hR_43 := Aside0.mk (blk_far hR_37.out (p := ⟨w.heap.size + 1, 2, none⟩) (by show w.heap.size ≠ w.heap.size + 1; omega) (.int .i64 x2))
        have hH_44 := Aside0.mk (blk_far hH_38.out (p := ⟨w.heap.size + 1, 2, none⟩) (by have := hgh.out; show gh ≠ w.heap.size + 1; omega) (.int .i64 x2))
        have hb_45 := Aside0.mk (below_set hb_39.out (j := 2) (v := .int .i64 x2) (Nat.le_succ _))
        clear o0_v_35 o1_v_35 o2_v_35 o3_v_35 o4_v_35 z0_v_35 z1_v_35 z2_v_35 z3_v_35 z4_v_35 b0_v_35 b1_v_35 b2_v_35 b3_v_35 zo_v_35 zr_v_35
        clear hO_36 hR_37 hH_38 hb_39
        generalize v_35.setCell ⟨w.heap.size + 1, 2, none⟩ (.int .i64 x2) = v_41 at hO_42 hR_43 hH_44 hb_45 ⊢
        have o0_v_41 : v_41.cell? ⟨w.heap.size + 1, 0, none⟩ = some (.int .i64 x) := (blk_cell hO_42.out 0).trans rfl
        have o1_v_41 : v_41.cell? ⟨w.heap.size + 1, 1, none⟩ = some (.int .i64 0) := (blk_cell hO_42.out 1).trans rfl
        have o2_v_41 : v_41.cell? ⟨w.heap.size + 1, 2, none⟩ = some (.int .i64 x2) := (blk_cell hO_42.out 2).trans rfl
        have o3_v_41 : v_41.cell? ⟨w.heap.size + 1, 3, none⟩ = some (.int .u64 x3) := (blk_cell hO_42.out 3).trans rfl
        have o4_v_41 : v_41.cell? ⟨w.heap.size + 1, 4, none⟩ = some (.slice none 0 0) := (blk_cell hO_42.out 4).trans rfl
        have z0_v_41 : v_41.cell? ⟨w.heap.size, 0, none⟩ = some (.int .i64 0) := (blk_cell hR_43.out 0).trans rfl
        have z1_v_41 : v_41.cell? ⟨w.heap.size, 1, none⟩ = some (.int .i64 0) := (blk_cell hR_43.out 1).trans rfl
        have z2_v_41 : v_41.cell? ⟨w.heap.size, 2, none⟩ = some (.int .i64 0) := (blk_cell hR_43.out 2).trans rfl
        have z3_v_41 : v_41.cell? ⟨w.heap.size, 3, none⟩ = some (.int .u64 0) := (blk_cell hR_43.out 3).trans rfl
        have z4_v_41 : v_41.cell? ⟨w.heap.size, 4, none⟩ = some (.slice none 0 0) := (blk_cell hR_43.out 4).trans rfl
        have b0_v_41 : v_41.cell? ⟨gh, 0, none⟩ = some (.bool false) := (blk_cell hH_44.out 0).trans rfl
        have b1_v_41 : v_41.cell? ⟨gh, 1, none⟩ = some (.bool true) := (blk_cell hH_44.out 1).trans rfl
        have b2_v_41 : v_41.cell? ⟨gh, 2, none⟩ = some (.bool true) := (blk_cell hH_44.out 2).trans rfl
        have b3_v_41 : v_41.cell? ⟨gh, 3, none⟩ = some (.bool false) := (blk_cell hH_44.out 3).trans rfl
        have zo_v_41 := fun i => blk_frozen hO_42.out i
        have zr_v_41 := fun i => blk_frozen hR_43.out i
        -- [[
        go_wp2
        have opv : opR (false, true, true, false) b a = some (⟨x, 0, x2, x3, []⟩, p_40) := by
          unfold opR
          simp only [Bool.false_eq_true, reduceIte, false_and, true_and, if_false, if_true]
          simp only [← hp1.out]
          simp only [← hp_29.out]
          simp only [← hp_40.out]
          simp only [← hx.out]
          simp only [← hx3.out]
          simp only [← hx2.out]
          rw [if_neg (by omega)]
          rw [if_neg (by omega)]
        refine bodyPost_ret (results_row2 rfl _ _ w.heap.size 39 #[.int .i64 x, .int .i64 0, .int .i64 x2, .int .u64 x3, .slice none 0 0] (0, 0) _ rfl (by refine blk_put (cs := #[.int .i64 x, .int .i64 0, .int .i64 x2, .int .u64 x3, .slice none 0 0]) ?_ 4 _ rfl; refine blk_put (cs := #[.int .i64 x, .int .i64 0, .int .i64 x2, .int .u64 0, .slice none 0 0]) ?_ 3 _ rfl; refine blk_put (cs := #[.int .i64 x, .int .i64 0, .int .i64 0, .int .u64 0, .slice none 0 0]) ?_ 2 _ rfl; refine blk_put (cs := #[.int .i64 x, .int .i64 0, .int .i64 0, .int .u64 0, .slice none 0 0]) ?_ 1 _ rfl; refine blk_put (cs := #[.int .i64 0, .int .i64 0, .int .i64 0, .int .u64 0, .slice none 0 0]) ?_ 0 _ rfl; exact hR_43.out) Try.underlying39 (by kernel_rfl)) rfl ?_
        refine ⟨⟨⟨(x), (0), (x2), (x3), ([] : List Int)⟩, _, none, 0, by rw [opv]; rfl, (fun _ _ => Kd.C_nil _ _), (Nat.le_refl _), fun r hr => ?_⟩, by repeat (first | (with_reducible exact hb_45.out) | (refine below_set ?_ (Nat.le_refl _)))⟩
        rw [opv] at hr
        cases hr
        exact ⟨rfl, rfl⟩
        -- ]]
  · cases e
    have o0_w4 : w4.cell? ⟨w.heap.size + 1, 0, none⟩ = some (.int .i64 x) := (blk_cell hO3.out 0).trans rfl
    have o1_w4 : w4.cell? ⟨w.heap.size + 1, 1, none⟩ = some (.int .i64 0) := (blk_cell hO3.out 1).trans rfl
    have o2_w4 : w4.cell? ⟨w.heap.size + 1, 2, none⟩ = some (.int .i64 0) := (blk_cell hO3.out 2).trans rfl
    have o3_w4 : w4.cell? ⟨w.heap.size + 1, 3, none⟩ = some (.int .u64 0) := (blk_cell hO3.out 3).trans rfl
    have o4_w4 : w4.cell? ⟨w.heap.size + 1, 4, none⟩ = some (.slice none 0 0) := (blk_cell hO3.out 4).trans rfl
    have z0_w4 : w4.cell? ⟨w.heap.size, 0, none⟩ = some (.int .i64 0) := (blk_cell hR3.out 0).trans rfl
    have z1_w4 : w4.cell? ⟨w.heap.size, 1, none⟩ = some (.int .i64 0) := (blk_cell hR3.out 1).trans rfl
    have z2_w4 : w4.cell? ⟨w.heap.size, 2, none⟩ = some (.int .i64 0) := (blk_cell hR3.out 2).trans rfl
    have z3_w4 : w4.cell? ⟨w.heap.size, 3, none⟩ = some (.int .u64 0) := (blk_cell hR3.out 3).trans rfl
    have z4_w4 : w4.cell? ⟨w.heap.size, 4, none⟩ = some (.slice none 0 0) := (blk_cell hR3.out 4).trans rfl
    have b0_w4 : w4.cell? ⟨gh, 0, none⟩ = some (.bool false) := (blk_cell hH3.out 0).trans rfl
    have b1_w4 : w4.cell? ⟨gh, 1, none⟩ = some (.bool true) := (blk_cell hH3.out 1).trans rfl
    have b2_w4 : w4.cell? ⟨gh, 2, none⟩ = some (.bool false) := (blk_cell hH3.out 2).trans rfl
    have b3_w4 : w4.cell? ⟨gh, 3, none⟩ = some (.bool true) := (blk_cell hH3.out 3).trans rfl
    have zo_w4 := fun i => blk_frozen hO3.out i
    have zr_w4 := fun i => blk_frozen hR3.out i
    obtain ⟨p_46, hp_46⟩ : ∃ p_46 : Nat, p_46 = p1 + 8 := ⟨_, rfl⟩
    have wp_46 : wrap64 ((p1 : Int) + 8) = (p_46 : Int) := by have := hl.out; have := ha.out; have := hp1.out; unfold wrap64; omega
    have xp_46 : IntKind.i64.wrap ((p1 : Int) + 8) = (p_46 : Int) := (i64_w _).trans wp_46
    replace hp_46 := Aside0.mk hp_46
    by_cases c1 : p_46 ≤ b.length
    case neg =>
      -- [[
      have d1 : decide (b.length < p_46) = true := decide_eq_true (by omega)
      have d1' : decide ((b.length : Int) < (p_46 : Int)) = true := decide_eq_true (by omega)
      go_wp2
      have opv : opR (false, true, false, true) b a = none := by
        unfold opR
        simp only [Bool.false_eq_true, reduceIte, false_and, true_and, if_false, if_true]
        simp only [← hp1.out]
        simp only [← hp_46.out]
        simp only [← hx.out]
        rw [if_pos (by omega)]
      refine bodyPost_ret (results_row2 rfl _ _ w.heap.size 39 #[.int .i64 x, .int .i64 0, .int .i64 0, .int .u64 0, .slice none 0 0] (0, 0) _ rfl (by refine blk_put (cs := #[.int .i64 x, .int .i64 0, .int .i64 0, .int .u64 0, .slice none 0 0]) ?_ 4 _ rfl; refine blk_put (cs := #[.int .i64 x, .int .i64 0, .int .i64 0, .int .u64 0, .slice none 0 0]) ?_ 3 _ rfl; refine blk_put (cs := #[.int .i64 x, .int .i64 0, .int .i64 0, .int .u64 0, .slice none 0 0]) ?_ 2 _ rfl; refine blk_put (cs := #[.int .i64 x, .int .i64 0, .int .i64 0, .int .u64 0, .slice none 0 0]) ?_ 1 _ rfl; refine blk_put (cs := #[.int .i64 0, .int .i64 0, .int .i64 0, .int .u64 0, .slice none 0 0]) ?_ 0 _ rfl; exact hR3.out) Try.underlying39 (by kernel_rfl)) rfl ?_
      refine ⟨⟨⟨(x), (0), (0), (0), ([] : List Int)⟩, _, none, 0, by rw [opv]; rfl, (fun _ _ => Kd.C_nil _ _), (Nat.le_refl _), fun r hr => ?_⟩, by repeat (first | (with_reducible exact hb4.out) | (refine below_set ?_ (Nat.le_refl _)))⟩
      rw [opv] at hr
      cases hr
      -- ]]
    case pos =>
      have d1 : decide (b.length < p_46) = false := decide_eq_false (by omega)
      have d1' : decide ((b.length : Int) < (p_46 : Int)) = false := decide_eq_false (by omega)
      have hGet := Aside0.mk (gunnyref01_Get.calls 9 (some A) c b (p1 : Int) 8 ((val ((b.drop p1).take 8) : Nat) : Int) w4 (Kd.C_below hC.out hb4.out) hc.out (rget 9 b hB.out (by have := hl.out; omega) p1 8 (by omega) (by omega) (by have := hp_46.out; omega) (by omega)))
      obtain ⟨x3, hx3⟩ : ∃ x3 : Int, x3 = ((val ((b.drop p1).take 8) : Nat) : Int) := ⟨_, rfl⟩
      rw [← hx3] at hGet
      replace hx3 := Aside0.mk hx3
      go_upto_region 12 with (fail)
      go_upto_region 13 with (go_at_call 45; refine hGet.out.mono ?_; rintro e v_47 ⟨rfl, hdr⟩; have hO_48 := Aside0.mk (blk_below hO3.out hdr.below); have hR_49 := Aside0.mk (blk_below hR3.out hdr.below); have hH_50 := Aside0.mk (blk_below hH3.out hdr.below); have hb_51 := Aside0.mk (below_step hb4.out hdr.below); clear hdr; have o3_v_47 : v_47.cell? ⟨w.heap.size + 1, 3, none⟩ = some (.int .u64 0) := (blk_cell hO_48.out 3).trans rfl; have zo_v_47 := fun i => blk_frozen hO_48.out i)
      clear o3_v_47 zo_v_47
      clear o0_w4 o1_w4 o2_w4 o3_w4 o4_w4 z0_w4 z1_w4 z2_w4 z3_w4 z4_w4 b0_w4 b1_w4 b2_w4 b3_w4 zo_w4 zr_w4
      have o0_v_47 : v_47.cell? ⟨w.heap.size + 1, 0, none⟩ = some (.int .i64 x) := (blk_cell hO_48.out 0).trans rfl
      have o1_v_47 : v_47.cell? ⟨w.heap.size + 1, 1, none⟩ = some (.int .i64 0) := (blk_cell hO_48.out 1).trans rfl
      have o2_v_47 : v_47.cell? ⟨w.heap.size + 1, 2, none⟩ = some (.int .i64 0) := (blk_cell hO_48.out 2).trans rfl
      have o3_v_47 : v_47.cell? ⟨w.heap.size + 1, 3, none⟩ = some (.int .u64 0) := (blk_cell hO_48.out 3).trans rfl
      have o4_v_47 : v_47.cell? ⟨w.heap.size + 1, 4, none⟩ = some (.slice none 0 0) := (blk_cell hO_48.out 4).trans rfl
      have z0_v_47 : v_47.cell? ⟨w.heap.size, 0, none⟩ = some (.int .i64 0) := (blk_cell hR_49.out 0).trans rfl
      have z1_v_47 : v_47.cell? ⟨w.heap.size, 1, none⟩ = some (.int .i64 0) := (blk_cell hR_49.out 1).trans rfl
      have z2_v_47 : v_47.cell? ⟨w.heap.size, 2, none⟩ = some (.int .i64 0) := (blk_cell hR_49.out 2).trans rfl
      have z3_v_47 : v_47.cell? ⟨w.heap.size, 3, none⟩ = some (.int .u64 0) := (blk_cell hR_49.out 3).trans rfl
      have z4_v_47 : v_47.cell? ⟨w.heap.size, 4, none⟩ = some (.slice none 0 0) := (blk_cell hR_49.out 4).trans rfl
      have b0_v_47 : v_47.cell? ⟨gh, 0, none⟩ = some (.bool false) := (blk_cell hH_50.out 0).trans rfl
      have b1_v_47 : v_47.cell? ⟨gh, 1, none⟩ = some (.bool true) := (blk_cell hH_50.out 1).trans rfl
      have b2_v_47 : v_47.cell? ⟨gh, 2, none⟩ = some (.bool false) := (blk_cell hH_50.out 2).trans rfl
      have b3_v_47 : v_47.cell? ⟨gh, 3, none⟩ = some (.bool true) := (blk_cell hH_50.out 3).trans rfl
      have zo_v_47 := fun i => blk_frozen hO_48.out i
      have zr_v_47 := fun i => blk_frozen hR_49.out i
      have hO_53 := Aside0.mk (blk_put (cs' := #[.int .i64 x, .int .i64 0, .int .i64 0, .int .u64 x3, .slice none 0 0]) hO_48.out 3 (.int .u64 x3) rfl)
      have hR_54 := Aside0.mk (blk_far hR_49.out (p := ⟨w.heap.size + 1, 3, none⟩) (by show w.heap.size ≠ w.heap.size + 1; omega) (.int .u64 x3))
      have hH_55 := Aside0.mk (blk_far hH_50.out (p := ⟨w.heap.size + 1, 3, none⟩) (by have := hgh.out; show gh ≠ w.heap.size + 1; omega) (.int .u64 x3))
      have hb_56 := Aside0.mk (below_set hb_51.out (j := 3) (v := .int .u64 x3) (Nat.le_succ _))
      clear o0_v_47 o1_v_47 o2_v_47 o3_v_47 o4_v_47 z0_v_47 z1_v_47 z2_v_47 z3_v_47 z4_v_47 b0_v_47 b1_v_47 b2_v_47 b3_v_47 zo_v_47 zr_v_47
      clear hO_48 hR_49 hH_50 hb_51
      generalize v_47.setCell ⟨w.heap.size + 1, 3, none⟩ (.int .u64 x3) = v_52 at hO_53 hR_54 hH_55 hb_56 ⊢
      have o0_v_52 : v_52.cell? ⟨w.heap.size + 1, 0, none⟩ = some (.int .i64 x) := (blk_cell hO_53.out 0).trans rfl
      have o1_v_52 : v_52.cell? ⟨w.heap.size + 1, 1, none⟩ = some (.int .i64 0) := (blk_cell hO_53.out 1).trans rfl
      have o2_v_52 : v_52.cell? ⟨w.heap.size + 1, 2, none⟩ = some (.int .i64 0) := (blk_cell hO_53.out 2).trans rfl
      have o3_v_52 : v_52.cell? ⟨w.heap.size + 1, 3, none⟩ = some (.int .u64 x3) := (blk_cell hO_53.out 3).trans rfl
      have o4_v_52 : v_52.cell? ⟨w.heap.size + 1, 4, none⟩ = some (.slice none 0 0) := (blk_cell hO_53.out 4).trans rfl
      have z0_v_52 : v_52.cell? ⟨w.heap.size, 0, none⟩ = some (.int .i64 0) := (blk_cell hR_54.out 0).trans rfl
      have z1_v_52 : v_52.cell? ⟨w.heap.size, 1, none⟩ = some (.int .i64 0) := (blk_cell hR_54.out 1).trans rfl
      have z2_v_52 : v_52.cell? ⟨w.heap.size, 2, none⟩ = some (.int .i64 0) := (blk_cell hR_54.out 2).trans rfl
      have z3_v_52 : v_52.cell? ⟨w.heap.size, 3, none⟩ = some (.int .u64 0) := (blk_cell hR_54.out 3).trans rfl
      have z4_v_52 : v_52.cell? ⟨w.heap.size, 4, none⟩ = some (.slice none 0 0) := (blk_cell hR_54.out 4).trans rfl
      have b0_v_52 : v_52.cell? ⟨gh, 0, none⟩ = some (.bool false) := (blk_cell hH_55.out 0).trans rfl
      have b1_v_52 : v_52.cell? ⟨gh, 1, none⟩ = some (.bool true) := (blk_cell hH_55.out 1).trans rfl
      have b2_v_52 : v_52.cell? ⟨gh, 2, none⟩ = some (.bool false) := (blk_cell hH_55.out 2).trans rfl
      have b3_v_52 : v_52.cell? ⟨gh, 3, none⟩ = some (.bool true) := (blk_cell hH_55.out 3).trans rfl
      have zo_v_52 := fun i => blk_frozen hO_53.out i
      have zr_v_52 := fun i => blk_frozen hR_54.out i
      by_cases c3 : p_46 < b.length
      case neg =>
        -- [[
        have d3 : decide (b.length ≤ p_46) = true := decide_eq_true (by omega)
        have d3' : decide ((b.length : Int) ≤ (p_46 : Int)) = true := decide_eq_true (by omega)
        go_wp2
        have opv : opR (false, true, false, true) b a = none := by
          unfold opR
          simp only [Bool.false_eq_true, reduceIte, false_and, true_and, if_false, if_true]
          simp only [← hp1.out]
          simp only [← hp_46.out]
          simp only [← hx.out]
          simp only [← hx3.out]
          rw [if_neg (by omega)]
          rw [if_pos (by omega)]
        refine bodyPost_ret (results_row2 rfl _ _ w.heap.size 39 #[.int .i64 x, .int .i64 0, .int .i64 0, .int .u64 x3, .slice none 0 0] (0, 0) _ rfl (by refine blk_put (cs := #[.int .i64 x, .int .i64 0, .int .i64 0, .int .u64 x3, .slice none 0 0]) ?_ 4 _ rfl; refine blk_put (cs := #[.int .i64 x, .int .i64 0, .int .i64 0, .int .u64 0, .slice none 0 0]) ?_ 3 _ rfl; refine blk_put (cs := #[.int .i64 x, .int .i64 0, .int .i64 0, .int .u64 0, .slice none 0 0]) ?_ 2 _ rfl; refine blk_put (cs := #[.int .i64 x, .int .i64 0, .int .i64 0, .int .u64 0, .slice none 0 0]) ?_ 1 _ rfl; refine blk_put (cs := #[.int .i64 0, .int .i64 0, .int .i64 0, .int .u64 0, .slice none 0 0]) ?_ 0 _ rfl; exact hR_54.out) Try.underlying39 (by kernel_rfl)) rfl ?_
        refine ⟨⟨⟨(x), (0), (0), (x3), ([] : List Int)⟩, _, none, 0, by rw [opv]; rfl, (fun _ _ => Kd.C_nil _ _), (Nat.le_refl _), fun r hr => ?_⟩, by repeat (first | (with_reducible exact hb_56.out) | (refine below_set ?_ (Nat.le_refl _)))⟩
        rw [opv] at hr
        cases hr
        -- ]]
      case pos =>
        have d3 : decide (b.length ≤ p_46) = false := decide_eq_false (by omega)
        have d3' : decide ((b.length : Int) ≤ (p_46 : Int)) = false := decide_eq_false (by omega)
        have lp_46 : p_46 < b.length := c3
        have mp_46 : decide ((p_46 : Int) < (b.length : Int)) = true := decide_eq_true (by omega)
        obtain ⟨x4, hx4⟩ : ∃ x4, x4 = rd b (p_46 : Int) := ⟨_, rfl⟩
        have rx4 := hrd.out v_52 hb_56.out p_46 lp_46
        have tx4 := rd_byte hB.out p_46 lp_46
        rw [← hx4] at rx4 tx4
        have ux4 : wrap64 x4 = x4 := wrap_id (by omega) (by omega)
        have vx4 : IntKind.i64.wrap x4 = x4 := (i64_w x4).trans ux4
        replace tx4 := Aside0.mk tx4
        replace hx4 := Aside0.mk hx4
        obtain ⟨p_57, hp_57⟩ : ∃ p_57 : Nat, p_57 = p_46 + 1 := ⟨_, rfl⟩
        have wp_57 : wrap64 ((p_46 : Int) + 1) = (p_57 : Int) := by have := hl.out; have := c3; unfold wrap64; omega
        have xp_57 : IntKind.i64.wrap ((p_46 : Int) + 1) = (p_57 : Int) := (i64_w _).trans wp_57
        replace hp_57 := Aside0.mk hp_57
        obtain ⟨n4, hn4⟩ : ∃ n4 : Nat, x4 = (n4 : Int) := ⟨x4.toNat, by have := tx4.out; omega⟩
        have hn5 : n4 < 256 := by have := tx4.out; omega
        obtain ⟨pe, hpe⟩ : ∃ pe : Nat, pe = p_57 + n4 := ⟨_, rfl⟩
        have wpe : wrap64 ((p_57 : Int) + (n4 : Int)) = (pe : Int) := by have := hl.out; have := c3; have := hp_57.out; unfold wrap64; omega
        have xpe : IntKind.i64.wrap ((p_57 : Int) + (n4 : Int)) = (pe : Int) := (i64_w _).trans wpe
        replace hpe := Aside0.mk hpe
        subst hn4
        replace hn5 := Aside0.mk hn5
        by_cases c4 : pe ≤ b.length
        case neg =>
          -- [[
          have d4 : decide (b.length < pe) = true := decide_eq_true (by omega)
          have d4' : decide ((b.length : Int) < (pe : Int)) = true := decide_eq_true (by omega)
          go_wp2
          have opv : opR (false, true, false, true) b a = none := by
            unfold opR
            simp only [Bool.false_eq_true, reduceIte, false_and, true_and, if_false, if_true]
            simp only [← hp1.out]
            simp only [← hp_46.out]
            simp only [← hp_57.out]
            simp only [← hx.out]
            simp only [← hx3.out]
            simp only [← hx4.out]
            simp only [Int.toNat_natCast]
            simp only [← hpe.out]
            rw [if_neg (by omega)]
            rw [if_neg (by omega)]
            rw [if_pos (by omega)]
          refine bodyPost_ret (results_row2 rfl _ _ w.heap.size 39 #[.int .i64 x, .int .i64 0, .int .i64 0, .int .u64 x3, .slice none 0 0] (0, 0) _ rfl (by refine blk_put (cs := #[.int .i64 x, .int .i64 0, .int .i64 0, .int .u64 x3, .slice none 0 0]) ?_ 4 _ rfl; refine blk_put (cs := #[.int .i64 x, .int .i64 0, .int .i64 0, .int .u64 0, .slice none 0 0]) ?_ 3 _ rfl; refine blk_put (cs := #[.int .i64 x, .int .i64 0, .int .i64 0, .int .u64 0, .slice none 0 0]) ?_ 2 _ rfl; refine blk_put (cs := #[.int .i64 x, .int .i64 0, .int .i64 0, .int .u64 0, .slice none 0 0]) ?_ 1 _ rfl; refine blk_put (cs := #[.int .i64 0, .int .i64 0, .int .i64 0, .int .u64 0, .slice none 0 0]) ?_ 0 _ rfl; exact hR_54.out) Try.underlying39 (by kernel_rfl)) rfl ?_
          refine ⟨⟨⟨(x), (0), (0), (x3), ([] : List Int)⟩, _, none, 0, by rw [opv]; rfl, (fun _ _ => Kd.C_nil _ _), (Nat.le_refl _), fun r hr => ?_⟩, by repeat (first | (with_reducible exact hb_56.out) | (refine below_set ?_ (Nat.le_refl _)))⟩
          rw [opv] at hr
          cases hr
          -- ]]
        case pos =>
          have d4 : decide (b.length < pe) = false := decide_eq_false (by omega)
          have d4' : decide ((b.length : Int) < (pe : Int)) = false := decide_eq_false (by omega)
          obtain ⟨V, hV⟩ : ∃ V, V = (if c = p_57 then some A else (some A).map (·.add (p_57 * 1))) := ⟨_, rfl⟩
          obtain ⟨i5, hi5, hz5, _, _⟩ := info5'
          have hqe := Aside0.mk (show p_57 ≤ pe ∧ pe ≤ c ∧ pe - p_57 = n4 by have := hpe.out; have := hc.out; omega)
          have hcut : ∀ W : World, (Instr.slice 31 (.slice (some A) b.length c) (some (.int .i64 (p_57 : Int))) (some (.int .i64 (pe : Int))) none).run Try.prog W = .ok (.slice V n4 (c - p_57)) W := by
            intro W
            have := cut_mid (P := Try.prog) 31 5 .i64 .i64 Try.underlying31 hi5 1 hz5 (some A) b.length c (p_57 : Int) (pe : Int) (by omega) (by have := hqe.out; omega) (by have := hqe.out; omega) hc.out W
            rw [Int.toNat_natCast, Int.toNat_natCast, ← hV, hqe.out.2.2] at this
            exact this
          have hrl : ((b.drop p_57).take n4).length = n4 := by rw [List.length_take, List.length_drop]; have := hpe.out; omega
          have hCm : ∀ W, Kd.C (Kd.int .u8) W (some A) b.length b → Kd.C (Kd.int .u8) W V n4 ((b.drop p_57).take n4) := by
            intro W hW
            have hCm : Kd.C (Kd.int .u8) W (if c = p_57 then some A else (some A).map (·.add (p_57 * 1))) _ _ := Kd.C_mid (c := c) hW (lo := p_57) (hi := pe) (by have := hqe.out; omega) c4 hc.out
            rw [List.drop_take, hqe.out.2.2, ← hV, hrl] at hCm
            exact hCm
          replace hCm := Aside0.mk hCm
          replace hrl := Aside0.mk hrl
          replace hV := Aside0.mk hV
          clear hi5 hz5
          go_upto_region 22 with (fail)
          go_upto_region 23 with (fail)
          have hO_59 := Aside0.mk (blk_put (cs' := #[.int .i64 x, .int .i64 0, .int .i64 0, .int .u64 x3, .slice V n4 (c - p_57)]) hO_53.out 4 (.slice V n4 (c - p_57)) rfl)
          have hR_60 := Aside0.mk (blk_far hR_54.out (p := ⟨w.heap.size + 1, 4, none⟩) (by show w.heap.size ≠ w.heap.size + 1; omega) (.slice V n4 (c - p_57)))
          have hH_61 := Aside0.mk (blk_far hH_55.out (p := ⟨w.heap.size + 1, 4, none⟩) (by have := hgh.out; show gh ≠ w.heap.size + 1; omega) (.slice V n4 (c - p_57)))
          have hb_62 := Aside0.mk (below_set hb_56.out (j := 4) (v := .slice V n4 (c - p_57)) (Nat.le_succ _))
          clear o0_v_52 o1_v_52 o2_v_52 o3_v_52 o4_v_52 z0_v_52 z1_v_52 z2_v_52 z3_v_52 z4_v_52 b0_v_52 b1_v_52 b2_v_52 b3_v_52 zo_v_52 zr_v_52
          clear hO_53 hR_54 hH_55 hb_56
          generalize v_52.setCell ⟨w.heap.size + 1, 4, none⟩ (.slice V n4 (c - p_57)) = v_58 at hO_59 hR_60 hH_61 hb_62 ⊢
          have o0_v_58 : v_58.cell? ⟨w.heap.size + 1, 0, none⟩ = some (.int .i64 x) := (blk_cell hO_59.out 0).trans rfl
          have o1_v_58 : v_58.cell? ⟨w.heap.size + 1, 1, none⟩ = some (.int .i64 0) := (blk_cell hO_59.out 1).trans rfl
          have o2_v_58 : v_58.cell? ⟨w.heap.size + 1, 2, none⟩ = some (.int .i64 0) := (blk_cell hO_59.out 2).trans rfl
          have o3_v_58 : v_58.cell? ⟨w.heap.size + 1, 3, none⟩ = some (.int .u64 x3) := (blk_cell hO_59.out 3).trans rfl
          have o4_v_58 : v_58.cell? ⟨w.heap.size + 1, 4, none⟩ = some (.slice V n4 (c - p_57)) := (blk_cell hO_59.out 4).trans rfl
          have z0_v_58 : v_58.cell? ⟨w.heap.size, 0, none⟩ = some (.int .i64 0) := (blk_cell hR_60.out 0).trans rfl
          have z1_v_58 : v_58.cell? ⟨w.heap.size, 1, none⟩ = some (.int .i64 0) := (blk_cell hR_60.out 1).trans rfl
          have z2_v_58 : v_58.cell? ⟨w.heap.size, 2, none⟩ = some (.int .i64 0) := (blk_cell hR_60.out 2).trans rfl
          have z3_v_58 : v_58.cell? ⟨w.heap.size, 3, none⟩ = some (.int .u64 0) := (blk_cell hR_60.out 3).trans rfl
          have z4_v_58 : v_58.cell? ⟨w.heap.size, 4, none⟩ = some (.slice none 0 0) := (blk_cell hR_60.out 4).trans rfl
          have b0_v_58 : v_58.cell? ⟨gh, 0, none⟩ = some (.bool false) := (blk_cell hH_61.out 0).trans rfl
          have b1_v_58 : v_58.cell? ⟨gh, 1, none⟩ = some (.bool true) := (blk_cell hH_61.out 1).trans rfl
          have b2_v_58 : v_58.cell? ⟨gh, 2, none⟩ = some (.bool false) := (blk_cell hH_61.out 2).trans rfl
          have b3_v_58 : v_58.cell? ⟨gh, 3, none⟩ = some (.bool true) := (blk_cell hH_61.out 3).trans rfl
          have zo_v_58 := fun i => blk_frozen hO_59.out i
          have zr_v_58 := fun i => blk_frozen hR_60.out i
          have ry4 := hrd.out v_58 hb_62.out p_46 lp_46
          rw [← hx4.out] at ry4
          go_wp2
          have opv : opR (false, true, false, true) b a = some (⟨x, 0, 0, x3, (b.drop p_57).take n4⟩, pe) := by
            unfold opR
            simp only [Bool.false_eq_true, reduceIte, false_and, true_and, if_false, if_true]
            simp only [← hp1.out]
            simp only [← hp_46.out]
            simp only [← hp_57.out]
            simp only [← hx.out]
            simp only [← hx3.out]
            simp only [← hx4.out]
            simp only [Int.toNat_natCast]
            simp only [← hpe.out]
            rw [if_neg (by omega)]
            rw [if_neg (by omega)]
            rw [if_neg (by omega)]
          refine bodyPost_ret (results_row2 rfl _ _ w.heap.size 39 #[.int .i64 x, .int .i64 0, .int .i64 0, .int .u64 x3, .slice V n4 (c - p_57)] (0, 0) _ rfl (by refine blk_put (cs := #[.int .i64 x, .int .i64 0, .int .i64 0, .int .u64 x3, .slice none 0 0]) ?_ 4 _ rfl; refine blk_put (cs := #[.int .i64 x, .int .i64 0, .int .i64 0, .int .u64 0, .slice none 0 0]) ?_ 3 _ rfl; refine blk_put (cs := #[.int .i64 x, .int .i64 0, .int .i64 0, .int .u64 0, .slice none 0 0]) ?_ 2 _ rfl; refine blk_put (cs := #[.int .i64 x, .int .i64 0, .int .i64 0, .int .u64 0, .slice none 0 0]) ?_ 1 _ rfl; refine blk_put (cs := #[.int .i64 0, .int .i64 0, .int .i64 0, .int .u64 0, .slice none 0 0]) ?_ 0 _ rfl; exact hR_60.out) Try.underlying39 (by kernel_rfl)) rfl ?_
          refine ⟨⟨⟨(x), (0), (0), (x3), ((b.drop p_57).take n4)⟩, _, V, (c - p_57), (by rw [opv]; simp only [hrl.out]; rfl), (fun W hW => by rw [hrl.out]; exact hCm.out W hW), (by rw [hrl.out]; have := hqe.out; omega), fun r hr => ?_⟩, by repeat (first | (with_reducible exact hb_62.out) | (refine below_set ?_ (Nat.le_refl _)))⟩
          rw [opv] at hr
          cases hr
          exact ⟨rfl, rfl⟩
  · cases e
    have o0_w4 : w4.cell? ⟨w.heap.size + 1, 0, none⟩ = some (.int .i64 x) := (blk_cell hO3.out 0).trans rfl
    have o1_w4 : w4.cell? ⟨w.heap.size + 1, 1, none⟩ = some (.int .i64 0) := (blk_cell hO3.out 1).trans rfl
    have o2_w4 : w4.cell? ⟨w.heap.size + 1, 2, none⟩ = some (.int .i64 0) := (blk_cell hO3.out 2).trans rfl
    have o3_w4 : w4.cell? ⟨w.heap.size + 1, 3, none⟩ = some (.int .u64 0) := (blk_cell hO3.out 3).trans rfl
    have o4_w4 : w4.cell? ⟨w.heap.size + 1, 4, none⟩ = some (.slice none 0 0) := (blk_cell hO3.out 4).trans rfl
    have z0_w4 : w4.cell? ⟨w.heap.size, 0, none⟩ = some (.int .i64 0) := (blk_cell hR3.out 0).trans rfl
    have z1_w4 : w4.cell? ⟨w.heap.size, 1, none⟩ = some (.int .i64 0) := (blk_cell hR3.out 1).trans rfl
    have z2_w4 : w4.cell? ⟨w.heap.size, 2, none⟩ = some (.int .i64 0) := (blk_cell hR3.out 2).trans rfl
    have z3_w4 : w4.cell? ⟨w.heap.size, 3, none⟩ = some (.int .u64 0) := (blk_cell hR3.out 3).trans rfl
    have z4_w4 : w4.cell? ⟨w.heap.size, 4, none⟩ = some (.slice none 0 0) := (blk_cell hR3.out 4).trans rfl
    have b0_w4 : w4.cell? ⟨gh, 0, none⟩ = some (.bool false) := (blk_cell hH3.out 0).trans rfl
    have b1_w4 : w4.cell? ⟨gh, 1, none⟩ = some (.bool false) := (blk_cell hH3.out 1).trans rfl
    have b2_w4 : w4.cell? ⟨gh, 2, none⟩ = some (.bool true) := (blk_cell hH3.out 2).trans rfl
    have b3_w4 : w4.cell? ⟨gh, 3, none⟩ = some (.bool false) := (blk_cell hH3.out 3).trans rfl
    have zo_w4 := fun i => blk_frozen hO3.out i
    have zr_w4 := fun i => blk_frozen hR3.out i
    by_cases c2 : p1 < b.length
    case neg =>
      -- [[
      have d2 : decide (b.length ≤ p1) = true := decide_eq_true (by omega)
      have d2' : decide ((b.length : Int) ≤ (p1 : Int)) = true := decide_eq_true (by omega)
      go_wp2
      have opv : opR (false, false, true, false) b a = none := by
        unfold opR
        simp only [Bool.false_eq_true, reduceIte, false_and, true_and, if_false, if_true]
        simp only [← hp1.out]
        simp only [← hx.out]
        rw [if_pos (by omega)]
      refine bodyPost_ret (results_row2 rfl _ _ w.heap.size 39 #[.int .i64 x, .int .i64 0, .int .i64 0, .int .u64 0, .slice none 0 0] (0, 0) _ rfl (by refine blk_put (cs := #[.int .i64 x, .int .i64 0, .int .i64 0, .int .u64 0, .slice none 0 0]) ?_ 4 _ rfl; refine blk_put (cs := #[.int .i64 x, .int .i64 0, .int .i64 0, .int .u64 0, .slice none 0 0]) ?_ 3 _ rfl; refine blk_put (cs := #[.int .i64 x, .int .i64 0, .int .i64 0, .int .u64 0, .slice none 0 0]) ?_ 2 _ rfl; refine blk_put (cs := #[.int .i64 x, .int .i64 0, .int .i64 0, .int .u64 0, .slice none 0 0]) ?_ 1 _ rfl; refine blk_put (cs := #[.int .i64 0, .int .i64 0, .int .i64 0, .int .u64 0, .slice none 0 0]) ?_ 0 _ rfl; exact hR3.out) Try.underlying39 (by kernel_rfl)) rfl ?_
      refine ⟨⟨⟨(x), (0), (0), (0), ([] : List Int)⟩, _, none, 0, by rw [opv]; rfl, (fun _ _ => Kd.C_nil _ _), (Nat.le_refl _), fun r hr => ?_⟩, by repeat (first | (with_reducible exact hb4.out) | (refine below_set ?_ (Nat.le_refl _)))⟩
      rw [opv] at hr
      cases hr
      -- ]]
    case pos =>
      have d2 : decide (b.length ≤ p1) = false := decide_eq_false (by omega)
      have d2' : decide ((b.length : Int) ≤ (p1 : Int)) = false := decide_eq_false (by omega)
      have lp1 : p1 < b.length := c2
      have mp1 : decide ((p1 : Int) < (b.length : Int)) = true := decide_eq_true (by omega)
      obtain ⟨x2, hx2⟩ : ∃ x2, x2 = rd b (p1 : Int) := ⟨_, rfl⟩
      have rx2 := hrd.out w4 hb4.out p1 lp1
      have tx2 := rd_byte hB.out p1 lp1
      rw [← hx2] at rx2 tx2
      have ux2 : wrap64 x2 = x2 := wrap_id (by omega) (by omega)
      have vx2 : IntKind.i64.wrap x2 = x2 := (i64_w x2).trans ux2
      replace tx2 := Aside0.mk tx2
      replace hx2 := Aside0.mk hx2
      obtain ⟨p_63, hp_63⟩ : ∃ p_63 : Nat, p_63 = p1 + 1 := ⟨_, rfl⟩
      have wp_63 : wrap64 ((p1 : Int) + 1) = (p_63 : Int) := by have := hl.out; have := c2; unfold wrap64; omega
      have xp_63 : IntKind.i64.wrap ((p1 : Int) + 1) = (p_63 : Int) := (i64_w _).trans wp_63
      replace hp_63 := Aside0.mk hp_63
      go_upto_region 18 with (fail)
      have hO_65 := Aside0.mk (blk_put (cs' := #[.int .i64 x, .int .i64 0, .int .i64 x2, .int .u64 0, .slice none 0 0]) hO3.out 2 (.int .i64 x2) rfl)
      have hR_66 := Aside0.mk (blk_far hR3.out (p := ⟨w.heap.size + 1, 2, none⟩) (by show w.heap.size ≠ w.heap.size + 1; omega) (.int .i64 x2))
      have hH_67 := Aside0.mk (blk_far hH3.out (p := ⟨w.heap.size + 1, 2, none⟩) (by have := hgh.out; show gh ≠ w.heap.size + 1; omega) (.int .i64 x2))
      have hb_68 := Aside0.mk (below_set hb4.out (j := 2) (v := .int .i64 x2) (Nat.le_succ _))
      clear o0_w4 o1_w4 o2_w4 o3_w4 o4_w4 z0_w4 z1_w4 z2_w4 z3_w4 z4_w4 b0_w4 b1_w4 b2_w4 b3_w4 zo_w4 zr_w4
      skip
      generalize w4.setCell ⟨w.heap.size + 1, 2, none⟩ (.int .i64 x2) = v_64 at hO_65 hR_66 hH_67 hb_68 ⊢
      have o0_v_64 : v_64.cell? ⟨w.heap.size + 1, 0, none⟩ = some (.int .i64 x) := (blk_cell hO_65.out 0).trans rfl
      have o1_v_64 : v_64.cell? ⟨w.heap.size + 1, 1, none⟩ = some (.int .i64 0) := (blk_cell hO_65.out 1).trans rfl
      have o2_v_64 : v_64.cell? ⟨w.heap.size + 1, 2, none⟩ = some (.int .i64 x2) := (blk_cell hO_65.out 2).trans rfl
      have o3_v_64 : v_64.cell? ⟨w.heap.size + 1, 3, none⟩ = some (.int .u64 0) := (blk_cell hO_65.out 3).trans rfl
      have o4_v_64 : v_64.cell? ⟨w.heap.size + 1, 4, none⟩ = some (.slice none 0 0) := (blk_cell hO_65.out 4).trans rfl
      have z0_v_64 : v_64.cell? ⟨w.heap.size, 0, none⟩ = some (.int .i64 0) := (blk_cell hR_66.out 0).trans rfl
      have z1_v_64 : v_64.cell? ⟨w.heap.size, 1, none⟩ = some (.int .i64 0) := (blk_cell hR_66.out 1).trans rfl
      have z2_v_64 : v_64.cell? ⟨w.heap.size, 2, none⟩ = some (.int .i64 0) := (blk_cell hR_66.out 2).trans rfl
      have z3_v_64 : v_64.cell? ⟨w.heap.size, 3, none⟩ = some (.int .u64 0) := (blk_cell hR_66.out 3).trans rfl
      have z4_v_64 : v_64.cell? ⟨w.heap.size, 4, none⟩ = some (.slice none 0 0) := (blk_cell hR_66.out 4).trans rfl
      have b0_v_64 : v_64.cell? ⟨gh, 0, none⟩ = some (.bool false) := (blk_cell hH_67.out 0).trans rfl
      have b1_v_64 : v_64.cell? ⟨gh, 1, none⟩ = some (.bool false) := (blk_cell hH_67.out 1).trans rfl
      have b2_v_64 : v_64.cell? ⟨gh, 2, none⟩ = some (.bool true) := (blk_cell hH_67.out 2).trans rfl
      have b3_v_64 : v_64.cell? ⟨gh, 3, none⟩ = some (.bool false) := (blk_cell hH_67.out 3).trans rfl
      have zo_v_64 := fun i => blk_frozen hO_65.out i
      have zr_v_64 := fun i => blk_frozen hR_66.out i
      -- [[
      go_wp2
      have opv : opR (false, false, true, false) b a = some (⟨x, 0, x2, 0, []⟩, p_63) := by
        unfold opR
        simp only [Bool.false_eq_true, reduceIte, false_and, true_and, if_false, if_true]
        simp only [← hp1.out]
        simp only [← hp_63.out]
        simp only [← hx.out]
        simp only [← hx2.out]
        rw [if_neg (by omega)]
      refine bodyPost_ret (results_row2 rfl _ _ w.heap.size 39 #[.int .i64 x, .int .i64 0, .int .i64 x2, .int .u64 0, .slice none 0 0] (0, 0) _ rfl (by refine blk_put (cs := #[.int .i64 x, .int .i64 0, .int .i64 x2, .int .u64 0, .slice none 0 0]) ?_ 4 _ rfl; refine blk_put (cs := #[.int .i64 x, .int .i64 0, .int .i64 x2, .int .u64 0, .slice none 0 0]) ?_ 3 _ rfl; refine blk_put (cs := #[.int .i64 x, .int .i64 0, .int .i64 0, .int .u64 0, .slice none 0 0]) ?_ 2 _ rfl; refine blk_put (cs := #[.int .i64 x, .int .i64 0, .int .i64 0, .int .u64 0, .slice none 0 0]) ?_ 1 _ rfl; refine blk_put (cs := #[.int .i64 0, .int .i64 0, .int .i64 0, .int .u64 0, .slice none 0 0]) ?_ 0 _ rfl; exact hR_66.out) Try.underlying39 (by kernel_rfl)) rfl ?_
      refine ⟨⟨⟨(x), (0), (x2), (0), ([] : List Int)⟩, _, none, 0, by rw [opv]; rfl, (fun _ _ => Kd.C_nil _ _), (Nat.le_refl _), fun r hr => ?_⟩, by repeat (first | (with_reducible exact hb_68.out) | (refine below_set ?_ (Nat.le_refl _)))⟩
      rw [opv] at hr
      cases hr
      exact ⟨rfl, rfl⟩
      -- ]]
  · cases e
    have o0_w4 : w4.cell? ⟨w.heap.size + 1, 0, none⟩ = some (.int .i64 x) := (blk_cell hO3.out 0).trans rfl
    have o1_w4 : w4.cell? ⟨w.heap.size + 1, 1, none⟩ = some (.int .i64 0) := (blk_cell hO3.out 1).trans rfl
    have o2_w4 : w4.cell? ⟨w.heap.size + 1, 2, none⟩ = some (.int .i64 0) := (blk_cell hO3.out 2).trans rfl
    have o3_w4 : w4.cell? ⟨w.heap.size + 1, 3, none⟩ = some (.int .u64 0) := (blk_cell hO3.out 3).trans rfl
    have o4_w4 : w4.cell? ⟨w.heap.size + 1, 4, none⟩ = some (.slice none 0 0) := (blk_cell hO3.out 4).trans rfl
    have z0_w4 : w4.cell? ⟨w.heap.size, 0, none⟩ = some (.int .i64 0) := (blk_cell hR3.out 0).trans rfl
    have z1_w4 : w4.cell? ⟨w.heap.size, 1, none⟩ = some (.int .i64 0) := (blk_cell hR3.out 1).trans rfl
    have z2_w4 : w4.cell? ⟨w.heap.size, 2, none⟩ = some (.int .i64 0) := (blk_cell hR3.out 2).trans rfl
    have z3_w4 : w4.cell? ⟨w.heap.size, 3, none⟩ = some (.int .u64 0) := (blk_cell hR3.out 3).trans rfl
    have z4_w4 : w4.cell? ⟨w.heap.size, 4, none⟩ = some (.slice none 0 0) := (blk_cell hR3.out 4).trans rfl
    have b0_w4 : w4.cell? ⟨gh, 0, none⟩ = some (.bool false) := (blk_cell hH3.out 0).trans rfl
    have b1_w4 : w4.cell? ⟨gh, 1, none⟩ = some (.bool false) := (blk_cell hH3.out 1).trans rfl
    have b2_w4 : w4.cell? ⟨gh, 2, none⟩ = some (.bool false) := (blk_cell hH3.out 2).trans rfl
    have b3_w4 : w4.cell? ⟨gh, 3, none⟩ = some (.bool false) := (blk_cell hH3.out 3).trans rfl
    have zo_w4 := fun i => blk_frozen hO3.out i
    have zr_w4 := fun i => blk_frozen hR3.out i
    -- [[
    go_wp2
    have opv : opR (false, false, false, false) b a = some (⟨x, 0, 0, 0, []⟩, p1) := by
      unfold opR
      simp only [Bool.false_eq_true, reduceIte, false_and, true_and, if_false, if_true]
      simp only [← hp1.out]
      simp only [← hx.out]
    refine bodyPost_ret (results_row2 rfl _ _ w.heap.size 39 #[.int .i64 x, .int .i64 0, .int .i64 0, .int .u64 0, .slice none 0 0] (0, 0) _ rfl (by refine blk_put (cs := #[.int .i64 x, .int .i64 0, .int .i64 0, .int .u64 0, .slice none 0 0]) ?_ 4 _ rfl; refine blk_put (cs := #[.int .i64 x, .int .i64 0, .int .i64 0, .int .u64 0, .slice none 0 0]) ?_ 3 _ rfl; refine blk_put (cs := #[.int .i64 x, .int .i64 0, .int .i64 0, .int .u64 0, .slice none 0 0]) ?_ 2 _ rfl; refine blk_put (cs := #[.int .i64 x, .int .i64 0, .int .i64 0, .int .u64 0, .slice none 0 0]) ?_ 1 _ rfl; refine blk_put (cs := #[.int .i64 0, .int .i64 0, .int .i64 0, .int .u64 0, .slice none 0 0]) ?_ 0 _ rfl; exact hR3.out) Try.underlying39 (by kernel_rfl)) rfl ?_
    refine ⟨⟨⟨(x), (0), (0), (0), ([] : List Int)⟩, _, none, 0, by rw [opv]; rfl, (fun _ _ => Kd.C_nil _ _), (Nat.le_refl _), fun r hr => ?_⟩, by repeat (first | (with_reducible exact hb4.out) | (refine below_set ?_ (Nat.le_refl _)))⟩
    rw [opv] at hr
    cases hr
    exact ⟨rfl, rfl⟩
    -- ]]
end Go.Proofs.Ytldoaddeaiappaa.Hand
end
section
namespace Go.Proofs.Ytldoaddeaiappaa.Hand
set_option linter.unusedVariables false
set_option linter.unusedSimpArgs false
open Go.RowKit Go.Proofs.Ytldoaddeaiappaa.R Go.Proofs.Ytldoaddeaiappaa.Bits Go.Proofs.YtldoaddeaiappaaW.PrintWords Go.Proofs.YtldoaddeaiappaaW.PrintLast Go.Proofs.YtldoaddeaiappaaW.PrintMore
theorem addr_add_zero (A : Addr) : A.add 0 = A := by
  obtain ⟨g, o, i⟩ := A
  cases i <;> simp [Addr.add]
abbrev noT (at_ e : Int) : TR := ((0, 0, 0, 0), [], [], at_, e)
theorem bit_ref {x : Int} {j : Nat} (hx : 0 ≤ x ∧ x < 256) (hj : j < 8) : gunnyref01_Bit.f 20 x (j : Int) = some ((Go.bits .and .u8 (shr .u8 x (j : Int)) 1) == 1) := by
  obtain ⟨y, rfl⟩ : ∃ y : Nat, x = (y : Int) := ⟨x.toNat, by omega⟩
  have h : ∀ y : Fin 256, ∀ j : Fin 8, gunnyref01_Bit.f 20 ((y.val : Nat) : Int) ((j.val : Nat) : Int) = some ((Go.bits .and .u8 (shr .u8 ((y.val : Nat) : Int) ((j.val : Nat) : Int)) 1) == 1) := by decide +kernel
  exact h ⟨y, by omega⟩ ⟨j, hj⟩
theorem tk_bit {i n m at_ l : Nat} (hi : i < m) (h : n ≤ m ∧ m < n + 8 ∧ at_ = 7 + m / 8 ∧ m % 8 = 0) (h2 : ¬ 4000 < n) (hl : at_ ≤ l) : ∃ q8 i8 j8 : Nat, (Int.tdiv (i : Int) 8 = (q8 : Int) ∧ (i : Int) / 8 = (q8 : Int) ∧ wrap64 (q8 : Int) = (q8 : Int) ∧ IntKind.i64.wrap (q8 : Int) = (q8 : Int) ∧ wrap64 (7 + (q8 : Int)) = (i8 : Int) ∧ IntKind.i64.wrap (7 + (q8 : Int)) = (i8 : Int) ∧ Int.tmod (i : Int) 8 = (j8 : Int) ∧ (i : Int) % 8 = (j8 : Int)) ∧ (i8 = 7 + i / 8 ∧ j8 = i % 8 ∧ i8 < l) := by
  have h1 : wrap64 ((i / 8 : Nat) : Int) = ((i / 8 : Nat) : Int) := by unfold wrap64; omega
  have h3 : wrap64 (7 + ((i / 8 : Nat) : Int)) = ((7 + i / 8 : Nat) : Int) := by unfold wrap64; omega
  refine ⟨i / 8, 7 + i / 8, i % 8, ⟨by rw [Int.tdiv_eq_ediv_of_nonneg (by omega)]; omega, by omega, h1, (i64_w _).trans h1, h3, (i64_w _).trans h3, by rw [Int.tmod_eq_emod_of_nonneg (by omega)]; omega, by omega⟩, rfl, rfl, by omega⟩
theorem tk_zero {i n m at_ a : Nat} (h : n ≤ m ∧ m < n + 8 ∧ at_ = 7 + m / 8 ∧ m % 8 = 0) (h2 : ¬ 4000 < n) : ¬ (i + 0 = 4010 ∧ i ≤ m ∧ a ≤ i) := by omega
theorem tk_in {i m n at_ l : Nat} (hi : i < m) (h : n ≤ m ∧ m < n + 8 ∧ at_ = 7 + m / 8 ∧ m % 8 = 0) (hl : at_ ≤ l) : 7 + i / 8 < l := by omega
/-- Bit i of the choices. -/
def bitR (b : List Int) (i : Nat) : Bool := (Go.bits .and .u8 (shr .u8 (rd b ((7 + i / 8 : Nat) : Int)) ((i % 8 : Nat) : Int)) 1) == 1
/-- The choices' bits: none, if a bit behind the last is set. -/
def chR (b : List Int) (n m : Nat) : Nat → Nat → List Bool → Option (List Bool)
  | 0, _, _ => none
  | q + 1, i, acc => if i < m then (if i < n then chR b n m q (i + 1) (acc ++ [bitR b i]) else if bitR b i = true then none else chR b n m q (i + 1) acc) else some acc
def opsR (b : List Int) (cf : Int × Int × Int × Int) (ch : List Bool) : Nat → List S39 → Nat → TR
  | 0, _, _ => noT 0 0
  | q + 1, acc, a => if a < b.length then (if acc.length = 400 then noT a 5 else if rd b (a : Int) > 10 then noT a 3 else match opR (hasK (rd b (a : Int))) b a with | none => noT b.length 4 | some r => opsR b cf ch q (acc ++ [r.1]) r.2) else (cf, ch, acc, (a : Int), 0)
def confB (c : Int × Int × Int × Int) : Bool := decide (8 ≤ c.1 ∧ c.1 ≤ 96 ∧ 0 ≤ c.2.1 ∧ c.2.1 ≤ 128 ∧ 4 ≤ c.2.2.1 ∧ c.2.2.1 ≤ 96 ∧ 1 ≤ c.2.2.2 ∧ c.2.2.2 ≤ 100)
def contR (b : List Int) (cf : Int × Int × Int × Int) (at_ : Nat) : Option (List Bool) → TR
  | none => noT ((at_ : Int) - 1) 3
  | some ch => opsR b cf ch 9010 [] at_
def refT (b : List Int) : TR :=
  if b.length < 1 then noT 0 4 else
  if rd b 0 ≠ 71 then noT 0 3 else
  if b.length < 5 then noT b.length 4 else
  let cf := (rd b 1, rd b 2, rd b 3, rd b 4)
  if confB cf = false then noT 1 1 else
  if b.length < 7 then noT b.length 4 else
  let n := (rd b 5 + 256 * rd b 6).toNat
  if 4000 < n then noT 5 5 else
  let at_ := 7 + (n + 7) / 8
  if b.length < at_ then noT b.length 4 else
  contR b cf at_ (chR b n (8 * ((n + 7) / 8)) 4010 0 [])
abbrev O48 (at_ e : Int) : Obj := .cells #[.int .i64 0, .int .i64 0, .int .i64 0, .int .i64 0, .slice none 0 0, .slice none 0 0, .int .i64 at_, .int .i64 e] 48 (0, 0)
abbrev B48 (c : Int × Int × Int × Int) (v4 v5 : Value) (at_ e : Int) : Value := .agg #[.int .i64 c.1, .int .i64 c.2.1, .int .i64 c.2.2.1, .int .i64 c.2.2.2, v4, v5, .int .i64 at_, .int .i64 e]
def RefBack (w w' : World) (R : TR) (e : Ending) : Prop := ∃ v4 v5, e = .returned (B48 R.1 v4 v5 R.2.2.2.1 R.2.2.2.2) ∧ Kd.R Kd.bool 4 w' w.heap.size (fun _ => True) v4 R.2.1 ∧ Kd.N k39 39 w' w.heap.size (fun _ => True) v5 R.2.2.1 ∧ Below w.heap.size w w'
theorem ref_no (w w' : World) (a e : Int) (hb : Below w.heap.size w w') : RefBack w w' (noT a e) (.returned (B48 (0, 0, 0, 0) (.slice none 0 0) (.slice none 0 0) a e)) := ⟨_, _, rfl, Kd.R_nil _ _ _ _ _, Kd.N_nil _ _ _ _ _, hb⟩
theorem tk_nums (n : Nat) (hn : n < 65536) : ∃ n7 m8 m at_ : Nat, wrap64 ((n : Int) + 7) = (n7 : Int) ∧ Int.tdiv (n7 : Int) 8 = (m8 : Int) ∧ wrap64 (m8 : Int) = (m8 : Int) ∧ wrap64 (7 + (m8 : Int)) = (at_ : Int) ∧ wrap64 (8 * (m8 : Int)) = (m : Int) ∧ (n ≤ m ∧ m < n + 8 ∧ at_ = 7 + m / 8 ∧ m % 8 = 0) ∧ 8 * ((n + 7) / 8) = m ∧ 7 + (n + 7) / 8 = at_ := by
  refine ⟨n + 7, (n + 7) / 8, 8 * ((n + 7) / 8), 7 + (n + 7) / 8, ?_, ?_, ?_, ?_, ?_, ?_, rfl, rfl⟩
  · unfold wrap64; omega
  · rw [Int.tdiv_eq_ediv_of_nonneg (by omega)]; omega
  · unfold wrap64; omega
  · unfold wrap64; omega
  · unfold wrap64; omega
  · omega
theorem tk_gt {y : Nat} (h : ¬ 4000 < y) : decide (4000 < y) = false ∧ decide ((4000 : Int) < (y : Int)) = false := ⟨decide_eq_false h, decide_eq_false (by omega)⟩
theorem tk_gt' {y : Nat} (h : 4000 < y) : decide (4000 < y) = true ∧ decide ((4000 : Int) < (y : Int)) = true := ⟨decide_eq_true h, decide_eq_true (by omega)⟩
theorem tk_lt {x y : Nat} (h : ¬ x < y) : decide (x < y) = false ∧ decide ((x : Int) < (y : Int)) = false := ⟨decide_eq_false h, decide_eq_false (by omega)⟩
theorem tk_lt' {x y : Nat} (h : x < y) : decide (x < y) = true ∧ decide ((x : Int) < (y : Int)) = true := ⟨decide_eq_true h, decide_eq_true (by omega)⟩
theorem R_apartN {α : Type} {d1 : Kd α} {e1 b1 b2 : Nat} {ok1 ok2 : Nat → Prop} {W : World} {v1 v2 : Value} {xs : List α} {ys : List S39} (h1 : d1.R e1 W b1 ok1 v1 xs) (h2 : Kd.N k39 39 W b2 ok2 v2 ys) (ht : ∀ q, q ∈ e1 :: d1.E → 39 ≠ q) : d1.R e1 W b1 (fun k => ok1 k ∧ some k ≠ v2.ownBlock) v1 xs :=
  Kd.R_mono (Kd.R_bound h1) (fun k hk => ⟨hk.1, by
    obtain ⟨_, _, _, q, hq, cells, hc⟩ := hk
    exact Kd.N_ne h2 hc (ht q hq)⟩)
theorem opR_le {h : Bool × Bool × Bool × Bool} {b : List Int} {a : Nat} {r : Option (S39 × Nat)} (e : opR h b a = r) (ha : a < b.length) : ∀ x, r = some x → a < x.2 ∧ x.2 ≤ b.length := by
  rintro x rfl
  obtain ⟨h0, h1, h2, h3⟩ := h
  unfold opR at e
  cases h0 <;> cases h1 <;> cases h2 <;> cases h3 <;> simp only [Bool.false_eq_true, reduceIte, false_and, true_and, if_false, if_true] at e <;>
    (repeat' (first | (cases e; done) | (split at e))) <;> (injection e with e; subst e; dsimp only; omega)
theorem tk_rd {a n q l o : Nat} (h : l < a + (q + 1) ∧ a ≤ l ∧ o ≤ 400) (h2 : a < n ∧ n ≤ l) (h3 : ¬ o = 400) : l < n + q ∧ n ≤ l ∧ o + 1 ≤ 400 := by omega
theorem tk_os {a q l o : Nat} (h : l < a + q ∧ a ≤ l ∧ o ≤ 400) : (o + 1) * 56 ≤ 140737488355328 := by omega
theorem tk_acc {i q n m at_ a : Nat} (hi : i + (q + 1) = 4010 ∧ i ≤ m ∧ a ≤ i) (h : n ≤ m ∧ m < n + 8 ∧ at_ = 7 + m / 8 ∧ m % 8 = 0) (h2 : ¬ 4000 < n) : (a + 1) * 1 ≤ 140737488355328 ∧ i < 9223372036854775807 := by omega
theorem tk_next {i q m a : Nat} (hi : i + (q + 1) = 4010 ∧ i ≤ m ∧ a ≤ i) (h : i < m) : (i + 1) + q = 4010 ∧ i + 1 ≤ m ∧ a + 1 ≤ i + 1 := by omega
theorem tk_next' {i q m a : Nat} (hi : i + (q + 1) = 4010 ∧ i ≤ m ∧ a ≤ i) (h : i < m) : (i + 1) + q = 4010 ∧ i + 1 ≤ m ∧ a ≤ i + 1 := by omega
theorem tk_back {n m at_ : Nat} (h : n ≤ m ∧ m < n + 8 ∧ at_ = 7 + m / 8 ∧ m % 8 = 0) (h2 : ¬ 4000 < n) : wrap64 ((at_ : Int) - 1) = (at_ : Int) - 1 := by unfold wrap64; omega
theorem fk_op {w W : World} {A0 : Addr} {b : List Int} (hC : Kd.C (Kd.int .u8) w (some A0) b.length b) (hB : Below w.heap.size w W) {o : S39} {A : Option Addr} {cd : Nat} (hd : ∀ W, Kd.C (Kd.int .u8) W (some A0) b.length b → Kd.C (Kd.int .u8) W A o.f4.length o.f4) (hc : o.f4.length ≤ cd) :
    Kd.FK k39 W (fun k => k < w.heap.size) o [.int .i64 o.f0, .int .i64 o.f1, .int .i64 o.f2, .int .u64 o.f3, .slice A o.f4.length cd] := by
  have hF := Kd.F_step (W1 := W) (Kd.F_imp (Kd.C_F (Kd.heap_int .u8) hC) hd) (fun k hk _ => hB.block k hk)
  exact fun W' hW => k39_mk W' o hc (hF W' hW)
end Go.Proofs.Ytldoaddeaiappaa.Hand
end
section
namespace Go.Proofs.Ytldoaddeaiappaa.Hand
set_option linter.unusedVariables false
set_option linter.unusedSimpArgs false
open Go.RowKit Go.Proofs.Ytldoaddeaiappaa.R Go.Proofs.Ytldoaddeaiappaa.Bits Go.Proofs.YtldoaddeaiappaaW.PrintWords Go.Proofs.YtldoaddeaiappaaW.PrintLast Go.Proofs.YtldoaddeaiappaaW.PrintMore
theorem fail_ok (b : List Int) (at_ bad x y : Int) : script_reader_fail.f b at_ bad 0 x y = some (at_, x, y) := by unfold script_reader_fail.f; rw [if_pos rfl]
theorem fail_bad (b : List Int) (at_ bad e x y : Int) (h : e ≠ 0) : script_reader_fail.f b at_ bad e x y = some (at_, bad, e) := by unfold script_reader_fail.f; rw [if_neg h]
theorem some_bad (k : Nat) (b : List Int) (at_ bad e : Int) (n : Nat) (he : e ≠ 0) (hn : n ≤ 100000) : script_reader_some.f k b at_ bad e (n : Int) = some (List.replicate n 0, at_, bad, e) := by
  unfold script_reader_some.f
  rw [if_neg he, if_pos (by omega), if_pos (by omega), Int.toNat_natCast]
theorem wsub (x y : Nat) (hx : x ≤ 1000000) (hy : y ≤ 1000000) : wrap64 ((x : Int) - (y : Int)) = (x : Int) - (y : Int) := by unfold wrap64; omega
theorem some_over (k : Nat) (b : List Int) (a : Nat) (bad : Int) (n : Nat) (hb : b.length ≤ 1000000) (ha : a ≤ b.length) (hn : n ≤ 100000) (h : b.length < a + n) : script_reader_some.f k b (a : Int) bad 0 (n : Int) = some (List.replicate n 0, (a : Int), (b.length : Int), 4) := by
  unfold script_reader_some.f
  rw [if_pos rfl, wsub b.length a hb (by omega), if_pos (by omega), fail_ok]
  simp only [Option.bind_some]
  rw [if_pos (by omega), if_pos (by omega), Int.toNat_natCast]
theorem some_l0_ok (n a : Nat) (b : List Int) (hb : b.length ≤ 1000000) (hf : a + n ≤ b.length) (bad e : Int) : ∀ (d k i : Nat) (x4 : List Int), i + d = n → d < k → x4.length = n →
    script_reader_some.l0 k (n : Int) x4 (i : Int) b ((a + n : Nat) : Int) bad e = some (x4.take i ++ (b.drop (a + i)).take (n - i), ((a + n : Nat) : Int), bad, e) := by
  intro d
  induction d with
  | zero =>
    intro k i x4 h1 h2 h3
    obtain ⟨k, rfl⟩ : ∃ m, k = m + 1 := ⟨k - 1, by omega⟩
    obtain rfl : i = n := by omega
    simp only [script_reader_some.l0]
    rw [if_neg (by omega), Nat.sub_self, List.take_zero, List.append_nil, List.take_of_length_le (by omega)]
  | succ d ih =>
    intro k i x4 h1 h2 h3
    obtain ⟨k, rfl⟩ : ∃ m, k = m + 1 := ⟨k - 1, by omega⟩
    have q1 : wrap64 (((a + n : Nat) : Int) - (n : Int)) = (a : Int) := by unfold wrap64; omega
    have q2 : wrap64 ((a : Int) + (i : Int)) = ((a + i : Nat) : Int) := by unfold wrap64; omega
    have q3 : wrap64 ((i : Int) + 1) = ((i + 1 : Nat) : Int) := by unfold wrap64; omega
    have hr : rd b ((a + i : Nat) : Int) = b[a + i]'(by omega) := by unfold rd; rw [Int.toNat_natCast, List.getD_eq_getElem?_getD, List.getElem?_eq_getElem (by omega)]; rfl
    simp only [script_reader_some.l0]
    rw [q1, q2, q3, hr, if_pos (by omega), if_pos (by omega), if_pos (by omega), if_pos (by omega), if_pos (by omega), Int.toNat_natCast, ih k (i + 1) _ (by omega) (by omega) (by rw [List.length_set]; exact h3)]
    congr 2
    rw [List.take_set, List.take_succ_eq_append_getElem (by omega), List.drop_eq_getElem_cons (show a + i < b.length by omega), show n - i = (n - (i + 1)) + 1 by omega, List.take_succ_cons, show a + i + 1 = a + (i + 1) by omega]
    rw [List.set_append_right _ _ (by rw [List.length_take]; omega), List.length_take, show i - min i x4.length = 0 by omega]
    simp
theorem some_ok (k : Nat) (b : List Int) (a : Nat) (bad : Int) (n : Nat) (hb : b.length ≤ 1000000) (hf : a + n ≤ b.length) (hk : n < k) : script_reader_some.f k b (a : Int) bad 0 (n : Int) = some ((b.drop a).take n, ((a + n : Nat) : Int), bad, 0) := by
  have q0 : wrap64 ((a : Int) + (n : Int)) = ((a + n : Nat) : Int) := by unfold wrap64; omega
  have q1 : wrap64 (((a + n : Nat) : Int) - (n : Int)) = (a : Int) := by unfold wrap64; omega
  have q2 : wrap64 (wrap64 ((n : Int) + (n : Int)) + 1) = ((2 * n + 1 : Nat) : Int) := by unfold wrap64; omega
  unfold script_reader_some.f
  rw [if_pos rfl, wsub b.length a hb (by omega), if_neg (by omega), q0, q1, wsub b.length (a + n) hb (by omega), q2]
  rw [if_pos (by omega), if_pos (by omega), if_pos (by omega), if_pos (by omega), if_pos (by omega), if_pos (by omega), if_pos (by omega), if_pos (by omega)]
  have := some_l0_ok n a b hb hf bad 0 n k 0 (List.replicate (n : Int).toNat 0) (by omega) hk (by rw [Int.toNat_natCast, List.length_replicate])
  rw [show ((0 : Nat) : Int) = 0 from rfl] at this
  rw [this]
  simp
theorem isBytes_zeros (n : Nat) : isBytes (List.replicate n 0) := fun x hx => by rw [(List.mem_replicate.1 hx).2]; omega
theorem val_zeros (n : Nat) : val (List.replicate n 0) = 0 := by
  induction n with
  | zero => rfl
  | succ n ih => rw [List.replicate_succ, val, ih]; rfl
theorem get_all (k : Nat) (l : List Int) (hl : isBytes l) (n : Nat) (h1 : 1 ≤ n) (hn : n ≤ 8) (h : l.length = n) (hk : 8 < k) : num_Get.f k l 0 (n : Int) = some (((val l : Nat) : Int), true) := by
  have := nget k l hl (by omega) 0 n h1 hn (by omega) hk
  rw [show ((0 : Nat) : Int) = 0 from rfl] at this
  rw [List.drop_zero, List.take_of_length_le (by omega)] at this
  exact this
theorem num_bad (k : Nat) (b : List Int) (at_ bad e : Int) (n : Nat) (he : e ≠ 0) (h1 : 1 ≤ n) (hn : n ≤ 8) (hk : 8 < k) : script_reader_number.f k b at_ bad e (n : Int) = some (0, at_, bad, e) := by
  unfold script_reader_number.f
  rw [some_bad k b at_ bad e n he (by omega)]
  simp only [Option.bind_some]
  rw [get_all k _ (isBytes_zeros n) n h1 hn (by simp) hk, val_zeros, Option.bind_some, w64 0 (by omega)]
  rfl
theorem num_over (k : Nat) (b : List Int) (a : Nat) (bad : Int) (n : Nat) (hb : b.length ≤ 1000000) (ha : a ≤ b.length) (h : b.length < a + n) (h1 : 1 ≤ n) (hn : n ≤ 8) (hk : 8 < k) : script_reader_number.f k b (a : Int) bad 0 (n : Int) = some (0, (a : Int), (b.length : Int), 4) := by
  unfold script_reader_number.f
  rw [some_over k b a bad n hb ha (by omega) h]
  simp only [Option.bind_some]
  rw [get_all k _ (isBytes_zeros n) n h1 hn (by simp) hk, val_zeros, Option.bind_some, w64 0 (by omega)]
  rfl
theorem num_ok (k : Nat) (b : List Int) (hB : isBytes b) (a : Nat) (bad : Int) (n : Nat) (hb : b.length ≤ 1000000) (hf : a + n ≤ b.length) (h1 : 1 ≤ n) (hn : n ≤ 2) (hk : 8 < k) : script_reader_number.f k b (a : Int) bad 0 (n : Int) = some (((val ((b.drop a).take n) : Nat) : Int), ((a + n : Nat) : Int), bad, 0) := by
  have hl : ((b.drop a).take n).length = n := by rw [List.length_take, List.length_drop]; omega
  have hv := val_lt ((hB.drop a).take n)
  rw [hl] at hv
  have hv2 : 256 ^ n ≤ 256 ^ 2 := Nat.pow_le_pow_right (by decide) hn
  unfold script_reader_number.f
  rw [some_ok k b a bad n hb hf (by omega)]
  simp only [Option.bind_some]
  rw [get_all k _ ((hB.drop a).take n) n h1 (by omega) hl hk]
  simp only [Option.bind_some]
  rw [w64 _ (by omega)]
theorem num1 (k : Nat) (b : List Int) (hB : isBytes b) (a : Nat) (bad : Int) (hb : b.length ≤ 1000000) (hf : a < b.length) (hk : 8 < k) : script_reader_number.f k b (a : Int) bad 0 1 = some (b[a], ((a + 1 : Nat) : Int), bad, 0) := by
  have := num_ok k b hB a bad 1 hb (by omega) (by omega) (by omega) hk
  have hx := hB b[a] (List.getElem_mem hf)
  rw [show ((1 : Nat) : Int) = 1 from rfl] at this
  rw [this, List.drop_eq_getElem_cons hf]
  simp only [List.take_succ_cons, List.take_zero, val]
  congr 2
  omega
theorem choices_bad (k : Nat) (b : List Int) (a bad e : Int) (he : e ≠ 0) (hk : 20 ≤ k) : script_reader_choices.f k b a bad e = some ([], a, bad, e) := by
  obtain ⟨k, rfl⟩ : ∃ m, k = m + 1 := ⟨k - 1, by omega⟩
  unfold script_reader_choices.f
  have h2 := num_bad (k + 1) b a bad e 2 he (by omega) (by omega) (by omega)
  rw [show ((2 : Nat) : Int) = 2 from rfl] at h2
  rw [h2, Option.bind_some]
  dsimp only
  rw [if_neg (by omega), show wrap64 (Int.tdiv (wrap64 (wrap64 (0 + 8) - 1)) 8) = ((0 : Nat) : Int) by decide +kernel, some_bad (k + 1) b a bad e 0 he (by omega), Option.bind_some]
  dsimp only
  rw [List.replicate_zero, List.length_nil, show wrap64 (8 * ((0 : Nat) : Int)) = 0 by decide +kernel]
  simp only [script_reader_choices.l0]
  rw [if_neg (by omega)]
theorem takeL_bad (k q : Nat) (b : List Int) (acc : List S39) (a bad e : Int) (he : e ≠ 0) : takeL k b (q + 1) acc a bad e = some (acc, a, bad, e) := by
  rw [takeL, if_neg he]
theorem takeF_bad (k : Nat) (b : List Int) (c0 c1 c2 c3 a bad e : Int) (h : script_reader_begin.f k b 0 0 0 = some (c0, c1, c2, c3, a, bad, e)) (he : e ≠ 0) (hk : 20 ≤ k) : takeF k b = some (noT bad e) := by
  unfold takeF
  rw [h, Option.bind_some]
  dsimp only
  rw [choices_bad k b a bad e he hk, Option.bind_some]
  dsimp only
  rw [show takeL k b 500 [] a bad e = some ([], a, bad, e) from takeL_bad k 499 b [] a bad e he, Option.bind_some]
  dsimp only
  rw [if_neg he]
theorem rd_take4 {b : List Int} {a : Nat} (i : Nat) (hi : i < 4) (h : a + 4 ≤ b.length) : rd ((b.drop a).take 4) (i : Int) = rd b ((a + i : Nat) : Int) := by
  unfold rd
  rw [Int.toNat_natCast, Int.toNat_natCast, List.getD_eq_getElem?_getD, List.getD_eq_getElem?_getD, List.getElem?_take_of_lt hi, List.getElem?_drop]
theorem conf_eq (a0 a1 a2 a3 : Int) : script_conf.f a0 a1 a2 a3 = some (confB (a0, a1, a2, a3)) := rfl
theorem begin_j0_bad (k : Nat) (b : List Int) (a bad e : Int) (he : e ≠ 0) (hk : 20 ≤ k) : script_reader_begin.j0 (k + 1) b a bad e = some (0, 0, 0, 0, a, bad, e) := by
  rw [script_reader_begin.j0]
  have h := some_bad k b a bad e 4 he (by omega)
  rw [show ((4 : Nat) : Int) = 4 from rfl] at h
  rw [h, Option.bind_some]
  dsimp only
  rw [if_pos (by decide), if_pos (by decide), if_pos (by decide), if_pos (by decide), show wrap64 (rd (List.replicate 4 0) 0) = 0 by decide +kernel, show wrap64 (rd (List.replicate 4 0) 1) = 0 by decide +kernel, show wrap64 (rd (List.replicate 4 0) 2) = 0 by decide +kernel, show wrap64 (rd (List.replicate 4 0) 3) = 0 by decide +kernel, conf_eq, Option.bind_some, if_neg (by decide), fail_bad b a bad e _ _ he, Option.bind_some]
theorem begin_j0_ok (k : Nat) (b : List Int) (hB : isBytes b) (hl : b.length ≤ 300000) (bad : Int) (h5 : 5 ≤ b.length) (hk : 20 ≤ k) : script_reader_begin.j0 (k + 1) b ((1 : Nat) : Int) bad 0 =
    if confB (rd b 1, rd b 2, rd b 3, rd b 4) = true then some (rd b 1, rd b 2, rd b 3, rd b 4, 5, bad, 0) else some (rd b 1, rd b 2, rd b 3, rd b 4, 5, 1, 1) := by
  rw [script_reader_begin.j0]
  have h := some_ok k b 1 bad 4 (by omega) (by omega) (by omega)
  rw [show ((4 : Nat) : Int) = 4 from rfl] at h
  have hlen : ((b.drop 1).take 4).length = 4 := by rw [List.length_take, List.length_drop]; omega
  have r0 := rd_take4 (b := b) (a := 1) 0 (by omega) (by omega)
  have r1 := rd_take4 (b := b) (a := 1) 1 (by omega) (by omega)
  have r2 := rd_take4 (b := b) (a := 1) 2 (by omega) (by omega)
  have r3 := rd_take4 (b := b) (a := 1) 3 (by omega) (by omega)
  have w1 : 0 ≤ rd b 1 ∧ rd b 1 < 256 := rd_byte hB 1 (by omega)
  have w2 : 0 ≤ rd b 2 ∧ rd b 2 < 256 := rd_byte hB 2 (by omega)
  have w3 : 0 ≤ rd b 3 ∧ rd b 3 < 256 := rd_byte hB 3 (by omega)
  have w4 : 0 ≤ rd b 4 ∧ rd b 4 < 256 := rd_byte hB 4 (by omega)
  rw [h, Option.bind_some]
  dsimp only
  rw [hlen, if_pos (by decide), if_pos (by decide), if_pos (by decide), if_pos (by decide)]
  rw [show rd ((b.drop 1).take 4) 0 = rd b 1 from r0, show rd ((b.drop 1).take 4) 1 = rd b 2 from r1, show rd ((b.drop 1).take 4) 2 = rd b 3 from r2, show rd ((b.drop 1).take 4) 3 = rd b 4 from r3]
  rw [wrap_id (x := rd b 1) (by have := w1.1; omega) (by have := w1.2; omega), wrap_id (x := rd b 2) (by have := w2.1; omega) (by have := w2.2; omega), wrap_id (x := rd b 3) (by have := w3.1; omega) (by have := w3.2; omega), wrap_id (x := rd b 4) (by have := w4.1; omega) (by have := w4.2; omega)]
  rw [conf_eq, Option.bind_some, fail_ok]
  rfl
theorem begin_j0_short (k : Nat) (b : List Int) (hl : b.length ≤ 300000) (h1 : 1 ≤ b.length) (h5 : b.length < 5) (bad : Int) : script_reader_begin.j0 (k + 1) b ((1 : Nat) : Int) bad 0 = some (0, 0, 0, 0, 1, (b.length : Int), 4) := by
  rw [script_reader_begin.j0]
  have h := some_over k b 1 bad 4 (by omega) h1 (by omega) (by omega)
  rw [show ((4 : Nat) : Int) = 4 from rfl] at h
  rw [h, Option.bind_some]
  dsimp only
  rw [if_pos (by decide), if_pos (by decide), if_pos (by decide), if_pos (by decide), show wrap64 (rd (List.replicate 4 0) 0) = 0 by decide +kernel, show wrap64 (rd (List.replicate 4 0) 1) = 0 by decide +kernel, show wrap64 (rd (List.replicate 4 0) 2) = 0 by decide +kernel, show wrap64 (rd (List.replicate 4 0) 3) = 0 by decide +kernel, conf_eq, Option.bind_some, if_neg (by decide), fail_bad b _ _ 4 _ _ (by decide), Option.bind_some]
  rfl
/-- The head: what is wrong, or the configuration. -/
theorem begin_some (k : Nat) (b : List Int) (hB : isBytes b) (hl : b.length ≤ 300000) (hk : 30 ≤ k) :
    (∃ c0 c1 c2 c3 a bad e, script_reader_begin.f k b 0 0 0 = some (c0, c1, c2, c3, a, bad, e) ∧ e ≠ 0 ∧ refT b = noT bad e) ∨
    (5 ≤ b.length ∧ rd b 0 = 71 ∧ confB (rd b 1, rd b 2, rd b 3, rd b 4) = true ∧ script_reader_begin.f k b 0 0 0 = some (rd b 1, rd b 2, rd b 3, rd b 4, 5, 0, 0)) := by
  obtain ⟨k, rfl⟩ : ∃ m, k = m + 1 := ⟨k - 1, by omega⟩
  unfold script_reader_begin.f
  by_cases h0 : b.length < 1
  · have n1 := num_over (k + 1) b 0 0 1 (by omega) (by omega) (by omega) (by omega) (by omega) (by omega)
    rw [show script_reader_number.f (k + 1) b 0 0 0 1 = some (0, 0, (b.length : Int), 4) from n1, Option.bind_some]
    dsimp only
    rw [if_neg (by decide), fail_bad b _ _ 4 _ _ (by decide), Option.bind_some]
    refine .inl ⟨_, _, _, _, _, _, _, begin_j0_bad k b 0 b.length 4 (by decide) (by omega), by decide, ?_⟩
    unfold refT
    rw [if_pos h0, show b.length = 0 by omega]
    rfl
  · have n1 := num1 (k + 1) b hB 0 0 (by omega) (by omega) (by omega)
    rw [show script_reader_number.f (k + 1) b 0 0 0 1 = some (b[0], 1, 0, 0) from n1, Option.bind_some]
    dsimp only
    rw [show b[0] = rd b 0 from (rd_at b 0 (by omega)).symm]
    by_cases h1 : rd b 0 = 71
    · rw [if_pos h1]
      by_cases h5 : b.length < 5
      · refine .inl ⟨_, _, _, _, _, _, _, begin_j0_short k b hl (by omega) h5 0, by decide, ?_⟩
        unfold refT
        rw [if_neg h0, if_neg (fun h => h h1), if_pos h5]
      · have hj := begin_j0_ok k b hB hl 0 (by omega) (by omega)
        by_cases hc : confB (rd b 1, rd b 2, rd b 3, rd b 4) = true
        · rw [if_pos hc] at hj
          exact .inr ⟨by omega, h1, hc, hj⟩
        · rw [if_neg hc] at hj
          refine .inl ⟨_, _, _, _, _, _, _, hj, by decide, ?_⟩
          unfold refT
          rw [if_neg h0, if_neg (fun h => h h1), if_neg h5]
          dsimp only
          rw [if_pos (by simpa using hc)]
    · rw [if_neg h1, fail_ok, Option.bind_some]
      refine .inl ⟨_, _, _, _, _, _, _, begin_j0_bad k b 1 0 3 (by decide) (by omega), by decide, ?_⟩
      unfold refT
      rw [if_neg h0, if_pos h1]
theorem div8 (i : Nat) (h : i < 100000) : wrap64 (Int.tdiv (i : Int) 8) = ((i / 8 : Nat) : Int) ∧ Int.tmod (i : Int) 8 = ((i % 8 : Nat) : Int) ∧ wrap64 ((i : Int) + 1) = ((i + 1 : Nat) : Int) := by
  rw [Int.tdiv_eq_ediv_of_nonneg (by omega), Int.tmod_eq_emod_of_nonneg (by omega)]
  refine ⟨?_, by omega, ?_⟩
  · unfold wrap64; omega
  · unfold wrap64; omega
/-- The choices' loop, when something is wrong already. -/
theorem ch_l0_bad (b l : List Int) (n m : Nat) (hm : m = 8 * l.length) (hm2 : m ≤ 5000) (a bad e : Int) (he : e ≠ 0) : ∀ (d k i : Nat) (acc : List Bool), i + d = m → d < k → acc.length ≤ i →
    ∃ L, script_reader_choices.l0 k (n : Int) l acc (m : Int) (i : Int) b a bad e = some (L, a, bad, e) := by
  intro d
  induction d with
  | zero =>
    intro k i acc h1 h2 h3
    obtain ⟨k, rfl⟩ : ∃ q, k = q + 1 := ⟨k - 1, by omega⟩
    exact ⟨acc, by rw [script_reader_choices.l0, if_neg (by omega)]⟩
  | succ d ih =>
    intro k i acc h1 h2 h3
    obtain ⟨k, rfl⟩ : ∃ q, k = q + 1 := ⟨k - 1, by omega⟩
    rw [script_reader_choices.l0, if_pos (by omega)]
    obtain ⟨e1, e2, e3⟩ := div8 i (by omega)
    rw [e1, e2, e3]
    clear e1 e2 e3
    rw [if_pos (by omega), if_pos (by omega), if_pos (by omega)]
    by_cases hn : i < n
    · rw [if_pos (by omega), if_pos (by omega)]
      exact ih k (i + 1) _ (by omega) (by omega) (by rw [List.length_append]; simp; omega)
    · rw [if_neg (by omega), fail_bad b a bad e _ _ he, Option.bind_some]
      obtain ⟨L, hL⟩ := ih k (i + 1) acc (by omega) (by omega) (by omega)
      exact ⟨L, by split <;> exact hL⟩
/-- The choices' loop, when nothing is wrong yet. -/
theorem ch_l0 (b l : List Int) (n m : Nat) (hm : m = 8 * l.length) (hm2 : m ≤ 5000) (hl : ∀ j, j < l.length → rd l (j : Int) = rd b ((7 + j : Nat) : Int)) (a bad : Int) : ∀ (d k i q : Nat) (acc : List Bool), i + d = m → d < k → d < q → acc.length ≤ i →
    (∃ ch, chR b n m q i acc = some ch ∧ script_reader_choices.l0 k (n : Int) l acc (m : Int) (i : Int) b a bad 0 = some (ch, a, bad, 0)) ∨
    (chR b n m q i acc = none ∧ ∃ L, script_reader_choices.l0 k (n : Int) l acc (m : Int) (i : Int) b a bad 0 = some (L, a, wrap64 (a - 1), 3)) := by
  intro d
  induction d with
  | zero =>
    intro k i q acc h1 h2 h4 h3
    obtain ⟨k, rfl⟩ : ∃ q, k = q + 1 := ⟨k - 1, by omega⟩
    obtain ⟨q, rfl⟩ : ∃ p, q = p + 1 := ⟨q - 1, by omega⟩
    exact .inl ⟨acc, by rw [chR, if_neg (by omega)], by rw [script_reader_choices.l0, if_neg (by omega)]⟩
  | succ d ih =>
    intro k i q acc h1 h2 h4 h3
    obtain ⟨k, rfl⟩ : ∃ q, k = q + 1 := ⟨k - 1, by omega⟩
    obtain ⟨q, rfl⟩ : ∃ p, q = p + 1 := ⟨q - 1, by omega⟩
    have hb : ((Go.bits .and .u8 (shr .u8 (rd l ((i / 8 : Nat) : Int)) ((i % 8 : Nat) : Int)) 1) == 1) = bitR b i := by rw [hl (i / 8) (by omega)]; rfl
    rw [script_reader_choices.l0, if_pos (by omega)]
    obtain ⟨e1, e2, e3⟩ := div8 i (by omega)
    rw [e1, e2, e3]
    clear e1 e2 e3
    rw [if_pos (by omega), if_pos (by omega), if_pos (by omega), chR, if_pos (show i < m by omega), hb]
    by_cases hn : i < n
    · rw [if_pos (show (i : Int) < (n : Int) by omega), if_pos hn, if_pos (by omega)]
      exact ih k (i + 1) q _ (by omega) (by omega) (by omega) (by rw [List.length_append]; simp; omega)
    · rw [if_neg (show ¬ (i : Int) < (n : Int) by omega), if_neg hn]
      cases hbit : bitR b i with
      | true =>
        rw [hbit] at hb
        rw [if_pos (beq_iff_eq.1 hb), if_pos rfl, fail_ok, Option.bind_some]
        obtain ⟨L, hL⟩ := ch_l0_bad b l n m hm hm2 a (wrap64 (a - 1)) 3 (by decide) d k (i + 1) acc (by omega) (by omega) (by omega)
        exact .inr ⟨rfl, L, hL⟩
      | false =>
        rw [hbit] at hb
        rw [if_neg (fun h => absurd ((beq_iff_eq.2 h).symm.trans hb) (by decide)), if_neg (by decide)]
        exact ih k (i + 1) q acc (by omega) (by omega) (by omega) (by omega)
theorem val2 (b : List Int) (hB : isBytes b) (h : 7 ≤ b.length) : ((val ((b.drop 5).take 2) : Nat) : Int) = rd b 5 + 256 * rd b 6 := by
  have h5 : 0 ≤ rd b 5 ∧ rd b 5 < 256 := rd_byte hB 5 (by omega)
  have h6 : 0 ≤ rd b 6 ∧ rd b 6 < 256 := rd_byte hB 6 (by omega)
  have e5 : rd b 5 = b[5] := rd_at b 5 (by omega)
  have e6 : rd b 6 = b[6] := rd_at b 6 (by omega)
  rw [List.drop_eq_getElem_cons (by omega), List.drop_eq_getElem_cons (by omega), ← e5, ← e6]
  simp only [List.take_succ_cons, List.take_zero, val]
  omega
/-- What follows the head. -/
def tailT (b : List Int) (cf : Int × Int × Int × Int) : TR :=
  if b.length < 7 then noT b.length 4 else
  if 4000 < (rd b 5 + 256 * rd b 6).toNat then noT 5 5 else
  if b.length < 7 + ((rd b 5 + 256 * rd b 6).toNat + 7) / 8 then noT b.length 4 else
  contR b cf (7 + ((rd b 5 + 256 * rd b 6).toNat + 7) / 8) (chR b (rd b 5 + 256 * rd b 6).toNat (8 * (((rd b 5 + 256 * rd b 6).toNat + 7) / 8)) 4010 0 [])
theorem refT_tail (b : List Int) (h5 : 5 ≤ b.length) (h0 : rd b 0 = 71) (hc : confB (rd b 1, rd b 2, rd b 3, rd b 4) = true) : refT b = tailT b (rd b 1, rd b 2, rd b 3, rd b 4) := by
  unfold refT
  rw [if_neg (by omega), if_neg (fun h => h h0), if_neg (by omega)]
  dsimp only
  rw [if_neg (by rw [hc]; decide)]
  rfl
theorem tdiv7 (n : Nat) (h : n < 100000) : wrap64 (Int.tdiv (wrap64 (wrap64 ((n : Int) + 8) - 1)) 8) = (((n + 7) / 8 : Nat) : Int) ∧ wrap64 (8 * (((n + 7) / 8 : Nat) : Int)) = ((8 * ((n + 7) / 8) : Nat) : Int) := by
  have e1 : wrap64 ((n : Int) + 8) = (n : Int) + 8 := wrap_id (by omega) (by omega)
  have e2 : wrap64 ((n : Int) + 8 - 1) = ((n + 7 : Nat) : Int) := by unfold wrap64; omega
  rw [e1, e2, Int.tdiv_eq_ediv_of_nonneg (by omega)]
  exact ⟨by unfold wrap64; omega, by unfold wrap64; omega⟩
/-- The choices: what is wrong, or they. -/
theorem chs_some (k : Nat) (b : List Int) (hB : isBytes b) (hl : b.length ≤ 300000) (h5 : 5 ≤ b.length) (hk : 6000 ≤ k) (cf : Int × Int × Int × Int) :
    (∃ ch a bad e, script_reader_choices.f k b 5 0 0 = some (ch, a, bad, e) ∧ e ≠ 0 ∧ tailT b cf = noT bad e) ∨
    (∃ ch, ∃ a : Nat, a ≤ b.length ∧ script_reader_choices.f k b 5 0 0 = some (ch, (a : Int), 0, 0) ∧ tailT b cf = opsR b cf ch 9010 [] a) := by
  unfold script_reader_choices.f tailT
  by_cases h7 : b.length < 7
  · have n1 := num_over k b 5 0 2 (by omega) (by omega) (by omega) (by omega) (by omega) (by omega)
    rw [show script_reader_number.f k b 5 0 0 2 = some (0, 5, (b.length : Int), 4) from n1, Option.bind_some]
    dsimp only
    rw [if_neg (by decide), show wrap64 (Int.tdiv (wrap64 (wrap64 (0 + 8) - 1)) 8) = ((0 : Nat) : Int) by decide +kernel, some_bad k b 5 _ 4 0 (by decide) (by omega), Option.bind_some]
    dsimp only
    rw [List.replicate_zero, List.length_nil, show wrap64 (8 * ((0 : Nat) : Int)) = 0 by decide +kernel]
    obtain ⟨L, hL⟩ := ch_l0_bad b [] 0 0 rfl (by omega) 5 (b.length : Int) 4 (by decide) 0 k 0 [] rfl (by omega) (by simp)
    exact .inl ⟨L, 5, _, 4, hL, by decide, by rw [if_pos h7]⟩
  · have n1 := num_ok k b hB 5 0 2 (by omega) (by omega) (by omega) (by omega) (by omega)
    rw [val2 b hB (by omega)] at n1
    have h5' : 0 ≤ rd b 5 ∧ rd b 5 < 256 := rd_byte hB 5 (by omega)
    have h6' : 0 ≤ rd b 6 ∧ rd b 6 < 256 := rd_byte hB 6 (by omega)
    obtain ⟨n, hn⟩ : ∃ n : Nat, rd b 5 + 256 * rd b 6 = (n : Int) := ⟨(rd b 5 + 256 * rd b 6).toNat, by omega⟩
    have hn6 : n < 65536 := by omega
    rw [hn] at n1 ⊢
    rw [show script_reader_number.f k b 5 0 0 2 = some ((n : Int), 7, 0, 0) from n1, Option.bind_some, Int.toNat_natCast]
    dsimp only
    clear n1 h5' h6' hn
    by_cases h4 : 4000 < n
    · rw [if_pos (by omega), fail_ok, Option.bind_some, if_neg h7, if_pos h4]
      exact .inl ⟨_, _, _, _, rfl, by decide, rfl⟩
    · rw [if_neg (by omega), if_neg h7, if_neg h4]
      obtain ⟨t1, t2⟩ := tdiv7 n (by omega)
      rw [t1]
      clear t1
      by_cases ha : b.length < 7 + (n + 7) / 8
      · have s1 := some_over k b 7 0 ((n + 7) / 8) (by omega) (by omega) (by omega) ha
        rw [show script_reader_some.f k b 7 0 0 (((n + 7) / 8 : Nat) : Int) = _ from s1, Option.bind_some]
        dsimp only
        rw [List.length_replicate, t2]
        clear t2 s1
        obtain ⟨L, hL⟩ := ch_l0_bad b (List.replicate ((n + 7) / 8) 0) n (8 * ((n + 7) / 8)) (by rw [List.length_replicate]) (by omega) 7 (b.length : Int) 4 (by decide) (8 * ((n + 7) / 8)) k 0 [] (by omega) (by omega) (by simp)
        exact .inl ⟨L, 7, _, 4, hL, by decide, by rw [if_pos ha]⟩
      · have s1 := some_ok k b 7 0 ((n + 7) / 8) (by omega) (by omega) (by omega)
        have hlen : ((b.drop 7).take ((n + 7) / 8)).length = (n + 7) / 8 := by rw [List.length_take, List.length_drop]; omega
        rw [show script_reader_some.f k b 7 0 0 (((n + 7) / 8 : Nat) : Int) = _ from s1, Option.bind_some]
        dsimp only
        rw [hlen, t2, if_neg ha]
        clear t2 s1
        have hrd : ∀ j, j < ((b.drop 7).take ((n + 7) / 8)).length → rd ((b.drop 7).take ((n + 7) / 8)) (j : Int) = rd b ((7 + j : Nat) : Int) := by
          intro j hj
          rw [hlen] at hj
          unfold rd
          rw [Int.toNat_natCast, Int.toNat_natCast, List.getD_eq_getElem?_getD, List.getD_eq_getElem?_getD, List.getElem?_take_of_lt hj, List.getElem?_drop]
        rcases ch_l0 b ((b.drop 7).take ((n + 7) / 8)) n (8 * ((n + 7) / 8)) (by rw [hlen]) (by omega) hrd (((7 + (n + 7) / 8 : Nat) : Int)) 0 (8 * ((n + 7) / 8)) k 0 4010 [] (by omega) (by omega) (by omega) (by simp) with ⟨ch, c1, c2⟩ | ⟨c1, L, c2⟩
        · exact .inr ⟨ch, 7 + (n + 7) / 8, by omega, c2, by rw [c1]; rfl⟩
        · refine .inl ⟨L, _, _, 3, c2, by decide, ?_⟩
          rw [c1, show wrap64 (((7 + (n + 7) / 8 : Nat) : Int) - 1) = ((7 + (n + 7) / 8 : Nat) : Int) - 1 from wrap_id (by omega) (by omega)]
          rfl
/-- An op's last part (the data), when something is wrong already. -/
theorem j2_bad (k : Nat) (b : List Int) (a bad e x0 x1 x2 x3 : Int) (h : Bool × Bool × Bool × Bool) (he : e ≠ 0) (hk : 20 ≤ k) : ∃ L, script_reader_op.j2 (k + 1) b a bad e x0 x1 x2 x3 h.1 h.2.1 h.2.2.1 h.2.2.2 = some (x0, x1, x2, x3, L, a, bad, e) := by
  rw [script_reader_op.j2]
  split
  · rw [show script_reader_number.f k b a bad e 1 = some (0, a, bad, e) from num_bad k b a bad e 1 he (by omega) (by omega) (by omega), Option.bind_some]
    dsimp only
    rw [show script_reader_some.f k b a bad e 0 = some (List.replicate 0 0, a, bad, e) from some_bad k b a bad e 0 he (by omega), Option.bind_some]
    exact ⟨_, rfl⟩
  · exact ⟨_, rfl⟩
theorem j1_bad (k : Nat) (b : List Int) (a bad e x0 x1 x2 x3 : Int) (h : Bool × Bool × Bool × Bool) (he : e ≠ 0) (hk : 20 ≤ k) : ∃ y2 L, script_reader_op.j1 (k + 2) b a bad e x0 x1 x2 x3 h.1 h.2.1 h.2.2.1 h.2.2.2 = some (x0, x1, y2, x3, L, a, bad, e) := by
  rw [script_reader_op.j1]
  split
  · rw [show script_reader_number.f (k + 1) b a bad e 1 = some (0, a, bad, e) from num_bad (k + 1) b a bad e 1 he (by omega) (by omega) (by omega), Option.bind_some]
    dsimp only
    obtain ⟨L, hL⟩ := j2_bad k b a bad e x0 x1 0 x3 h he hk
    exact ⟨_, L, hL⟩
  · obtain ⟨L, hL⟩ := j2_bad k b a bad e x0 x1 x2 x3 h he hk
    exact ⟨_, L, hL⟩
theorem j0_bad (k : Nat) (b : List Int) (a bad e x0 x1 x2 x3 : Int) (h : Bool × Bool × Bool × Bool) (he : e ≠ 0) (hk : 20 ≤ k) : ∃ y2 y3 L, script_reader_op.j0 (k + 3) b a bad e x0 x1 x2 x3 h.1 h.2.1 h.2.2.1 h.2.2.2 = some (x0, x1, y2, y3, L, a, bad, e) := by
  rw [script_reader_op.j0]
  split
  · rw [show script_reader_some.f (k + 2) b a bad e 8 = some (List.replicate 8 0, a, bad, e) from some_bad (k + 2) b a bad e 8 he (by omega), Option.bind_some]
    dsimp only
    rw [show num_Get.f (k + 2) (List.replicate 8 0) 0 8 = _ from get_all (k + 2) (List.replicate 8 0) (isBytes_zeros 8) 8 (by omega) (by omega) (by simp) (by omega), Option.bind_some]
    dsimp only
    obtain ⟨y2, L, hL⟩ := j1_bad k b a bad e x0 x1 x2 _ h he hk
    exact ⟨_, _, L, hL⟩
  · obtain ⟨y2, L, hL⟩ := j1_bad k b a bad e x0 x1 x2 x3 h he hk
    exact ⟨_, _, L, hL⟩
/-- What an op's reading leaves: the op and the place behind it, or that a byte lacks. -/
def OpAns (b : List Int) (bad : Int) (res : Option (S39 × Nat)) (x : Option (Int × Int × Int × Int × List Int × Int × Int × Int)) : Prop :=
  match res with
  | some r => x = some (r.1.f0, r.1.f1, r.1.f2, r.1.f3, r.1.f4, (r.2 : Int), bad, 0)
  | none => ∃ y0 y1 y2 y3 L a, x = some (y0, y1, y2, y3, L, a, (b.length : Int), 4)
theorem OpAns.none_ {b : List Int} {bad : Int} {x : Option (Int × Int × Int × Int × List Int × Int × Int × Int)} {y0 y1 y2 y3 : Int} {L : List Int} {a : Int} (h : x = some (y0, y1, y2, y3, L, a, (b.length : Int), 4)) : OpAns b bad none x := ⟨_, _, _, _, _, _, h⟩
def d2 (b : List Int) (h3 : Bool) (x0 x1 x2 x3 : Int) (r : Nat) : Option (S39 × Nat) :=
  if h3 = true then (if b.length ≤ r then none else if b.length < r + 1 + (rd b (r : Int)).toNat then none else some (⟨x0, x1, x2, x3, (b.drop (r + 1)).take (rd b (r : Int)).toNat⟩, r + 1 + (rd b (r : Int)).toNat)) else some (⟨x0, x1, x2, x3, []⟩, r)
theorem j2_ok (k : Nat) (b : List Int) (hB : isBytes b) (hl : b.length ≤ 300000) (r : Nat) (hr : r ≤ b.length) (bad x0 x1 x2 x3 : Int) (h : Bool × Bool × Bool × Bool) (hk : 400 ≤ k) :
    OpAns b bad (d2 b h.2.2.2 x0 x1 x2 x3 r) (script_reader_op.j2 (k + 1) b (r : Int) bad 0 x0 x1 x2 x3 h.1 h.2.1 h.2.2.1 h.2.2.2) := by
  rw [script_reader_op.j2]
  unfold d2
  by_cases h3 : h.2.2.2 = true
  · rw [if_pos h3, if_pos h3]
    by_cases c : b.length ≤ r
    · rw [if_pos c, show script_reader_number.f k b (r : Int) bad 0 1 = some (0, (r : Int), (b.length : Int), 4) from num_over k b r bad 1 (by omega) hr (by omega) (by omega) (by omega) (by omega), Option.bind_some]
      dsimp only
      rw [show script_reader_some.f k b (r : Int) (b.length : Int) 4 0 = some (List.replicate 0 0, (r : Int), (b.length : Int), 4) from some_bad k b r b.length 4 0 (by decide) (by omega), Option.bind_some]
      exact OpAns.none_ rfl
    · have hx := rd_byte hB r (by omega)
      rw [if_neg c, num1 k b hB r bad (by omega) (by omega) (by omega), Option.bind_some, ← rd_at b r (by omega)]
      dsimp only
      obtain ⟨n, hn⟩ : ∃ n : Nat, rd b (r : Int) = (n : Int) := ⟨(rd b (r : Int)).toNat, by omega⟩
      rw [hn, Int.toNat_natCast]
      by_cases c2 : b.length < r + 1 + n
      · rw [if_pos c2, some_over k b (r + 1) bad n (by omega) (by omega) (by omega) c2, Option.bind_some]
        exact OpAns.none_ rfl
      · rw [if_neg c2, some_ok k b (r + 1) bad n (by omega) (by omega) (by omega), Option.bind_some]
        rfl
  · rw [if_neg h3, if_neg h3]
    rfl
def d1 (b : List Int) (h2 h3 : Bool) (x0 x1 x2 x3 : Int) (q : Nat) : Option (S39 × Nat) :=
  if h2 = true ∧ b.length ≤ q then none else d2 b h3 x0 x1 (if h2 = true then rd b (q : Int) else x2) x3 (if h2 = true then q + 1 else q)
theorem j1_ok (k : Nat) (b : List Int) (hB : isBytes b) (hl : b.length ≤ 300000) (q : Nat) (hq : q ≤ b.length) (bad x0 x1 x2 x3 : Int) (h : Bool × Bool × Bool × Bool) (hk : 400 ≤ k) :
    OpAns b bad (d1 b h.2.2.1 h.2.2.2 x0 x1 x2 x3 q) (script_reader_op.j1 (k + 2) b (q : Int) bad 0 x0 x1 x2 x3 h.1 h.2.1 h.2.2.1 h.2.2.2) := by
  rw [script_reader_op.j1]
  unfold d1
  by_cases h2 : h.2.2.1 = true
  · rw [if_pos h2, if_pos h2, if_pos h2]
    by_cases c : b.length ≤ q
    · rw [if_pos ⟨h2, c⟩, show script_reader_number.f (k + 1) b (q : Int) bad 0 1 = some (0, (q : Int), (b.length : Int), 4) from num_over (k + 1) b q bad 1 (by omega) hq (by omega) (by omega) (by omega) (by omega), Option.bind_some]
      dsimp only
      obtain ⟨L, hL⟩ := j2_bad k b q b.length 4 x0 x1 0 x3 h (by decide) (by omega)
      exact OpAns.none_ hL
    · rw [if_neg (fun x => c x.2), num1 (k + 1) b hB q bad (by omega) (by omega) (by omega), Option.bind_some, ← rd_at b q (by omega)]
      exact j2_ok k b hB hl (q + 1) (by omega) bad x0 x1 _ x3 h hk
  · rw [if_neg h2, if_neg h2, if_neg h2, if_neg (fun x => h2 x.1)]
    exact j2_ok k b hB hl q hq bad x0 x1 x2 x3 h hk
def d0 (b : List Int) (h1 h2 h3 : Bool) (x0 x1 x2 x3 : Int) (p : Nat) : Option (S39 × Nat) :=
  if h1 = true ∧ b.length < p + 8 then none else d1 b h2 h3 x0 x1 x2 (if h1 = true then ((val ((b.drop p).take 8) : Nat) : Int) else x3) (if h1 = true then p + 8 else p)
theorem j0_ok (k : Nat) (b : List Int) (hB : isBytes b) (hl : b.length ≤ 300000) (p : Nat) (hp : p ≤ b.length) (bad x0 x1 x2 x3 : Int) (h : Bool × Bool × Bool × Bool) (hk : 400 ≤ k) :
    OpAns b bad (d0 b h.2.1 h.2.2.1 h.2.2.2 x0 x1 x2 x3 p) (script_reader_op.j0 (k + 3) b (p : Int) bad 0 x0 x1 x2 x3 h.1 h.2.1 h.2.2.1 h.2.2.2) := by
  rw [script_reader_op.j0]
  unfold d0
  by_cases h1 : h.2.1 = true
  · rw [if_pos h1, if_pos h1, if_pos h1]
    by_cases c : b.length < p + 8
    · rw [if_pos ⟨h1, c⟩, show script_reader_some.f (k + 2) b (p : Int) bad 0 8 = some (List.replicate 8 0, (p : Int), (b.length : Int), 4) from some_over (k + 2) b p bad 8 (by omega) hp (by omega) c, Option.bind_some]
      dsimp only
      rw [show num_Get.f (k + 2) (List.replicate 8 0) 0 8 = _ from get_all (k + 2) (List.replicate 8 0) (isBytes_zeros 8) 8 (by omega) (by omega) (by simp) (by omega), Option.bind_some]
      dsimp only
      obtain ⟨y2, L, hL⟩ := j1_bad k b p b.length 4 x0 x1 x2 (((val (List.replicate 8 0)) : Nat) : Int) h (by decide) (by omega)
      exact OpAns.none_ hL
    · have hlen : ((b.drop p).take 8).length = 8 := by rw [List.length_take, List.length_drop]; omega
      rw [if_neg (fun x => c x.2), show script_reader_some.f (k + 2) b (p : Int) bad 0 8 = some ((b.drop p).take 8, ((p + 8 : Nat) : Int), bad, 0) from some_ok (k + 2) b p bad 8 (by omega) (by omega) (by omega), Option.bind_some]
      dsimp only
      rw [show num_Get.f (k + 2) ((b.drop p).take 8) 0 8 = _ from get_all (k + 2) ((b.drop p).take 8) ((hB.drop p).take 8) 8 (by omega) (by omega) hlen (by omega), Option.bind_some]
      exact j1_ok k b hB hl (p + 8) (by omega) bad x0 x1 x2 _ h hk
  · rw [if_neg h1, if_neg h1, if_neg h1, if_neg (fun x => h1 x.1)]
    exact j1_ok k b hB hl p hp bad x0 x1 x2 x3 h hk
theorem opR_eq (h : Bool × Bool × Bool × Bool) (b : List Int) (a : Nat) : opR h b a = if h.1 = true ∧ b.length ≤ a + 1 then none else d0 b h.2.1 h.2.2.1 h.2.2.2 (rd b (a : Int)) (if h.1 = true then rd b ((a + 1 : Nat) : Int) else 0) 0 0 (if h.1 = true then a + 1 + 1 else a + 1) := rfl
/-- An op's reading: what the document says of it. -/
theorem takeop_some (k : Nat) (b : List Int) (hB : isBytes b) (hl : b.length ≤ 300000) (a : Nat) (ha : a < b.length) (bad : Int) (hx : rd b (a : Int) ≤ 10) (hk : 500 ≤ k) :
    OpAns b bad (opR (hasK (rd b (a : Int))) b a) (script_reader_op.f k b (a : Int) bad 0) := by
  obtain ⟨k, rfl⟩ : ∃ m, k = m + 3 := ⟨k - 3, by omega⟩
  unfold script_reader_op.f
  rw [num1 (k + 3) b hB a bad (by omega) (by omega) (by omega), Option.bind_some, ← rd_at b a (by omega)]
  dsimp only
  rw [if_neg (by omega), fields_some (k + 3) _ (by omega), Option.bind_some]
  rw [opR_eq]
  by_cases h0 : (hasK (rd b (a : Int))).1 = true
  · rw [if_pos h0, if_pos h0, if_pos h0]
    by_cases c : b.length ≤ a + 1
    · rw [if_pos ⟨h0, c⟩, show script_reader_number.f (k + 3) b ((a + 1 : Nat) : Int) bad 0 1 = some (0, ((a + 1 : Nat) : Int), (b.length : Int), 4) from num_over (k + 3) b (a + 1) bad 1 (by omega) (by omega) (by omega) (by omega) (by omega) (by omega), Option.bind_some]
      dsimp only
      obtain ⟨y2, y3, L, hL⟩ := j0_bad k b ((a + 1 : Nat) : Int) b.length 4 (rd b (a : Int)) 0 0 0 (hasK (rd b (a : Int))) (by decide) (by omega)
      exact OpAns.none_ hL
    · rw [if_neg (fun x => c x.2), num1 (k + 3) b hB (a + 1) bad (by omega) (by omega) (by omega), Option.bind_some, ← rd_at b (a + 1) (by omega)]
      exact j0_ok k b hB hl (a + 1 + 1) (by omega) bad _ _ 0 0 (hasK (rd b (a : Int))) (by omega)
  · rw [if_neg h0, if_neg h0, if_neg h0, if_neg (fun x => h0 x.1)]
    exact j0_ok k b hB hl (a + 1) (by omega) bad _ 0 0 0 (hasK (rd b (a : Int))) (by omega)
theorem op_long (k : Nat) (b : List Int) (hB : isBytes b) (hl : b.length ≤ 300000) (a : Nat) (ha : a < b.length) (bad : Int) (hx : rd b (a : Int) > 10) (hk : 500 ≤ k) :
    ∃ y0 y1 y2 y3 L a', script_reader_op.f k b (a : Int) bad 0 = some (y0, y1, y2, y3, L, a', (a : Int), 3) := by
  unfold script_reader_op.f
  rw [num1 k b hB a bad (by omega) (by omega) (by omega), Option.bind_some, ← rd_at b a (by omega)]
  dsimp only
  rw [if_pos (by omega), fail_ok, Option.bind_some]
  exact ⟨_, _, _, _, _, _, rfl⟩
/-- The ops, one behind the other. -/
theorem takeL_some (k : Nat) (b : List Int) (hB : isBytes b) (hl : b.length ≤ 300000) (hk : 500 ≤ k) (cf : Int × Int × Int × Int) (ch : List Bool) : ∀ (q2 q1 a : Nat) (acc : List S39), acc.length ≤ 400 → 402 ≤ acc.length + q2 → a ≤ b.length → 402 ≤ acc.length + q1 →
    ∃ L at_ bad e, takeL k b q2 acc (a : Int) 0 0 = some (L, at_, bad, e) ∧ opsR b cf ch q1 acc a = if e = 0 then (cf, ch, L, at_, 0) else noT bad e := by
  intro q2
  induction q2 with
  | zero => intro q1 a acc h1 h2; omega
  | succ q2 ih =>
    intro q1 a acc h1 h2 h3 h4
    obtain ⟨q1, rfl⟩ : ∃ m, q1 = m + 1 := ⟨q1 - 1, by omega⟩
    rw [takeL, opsR, if_pos rfl]
    by_cases c : a < b.length
    · rw [if_pos (show (a : Int) < (b.length : Int) by omega), if_pos c]
      by_cases c4 : acc.length = 400
      · rw [if_pos c4, if_pos c4, fail_ok, Option.bind_some]
        dsimp only
        exact ⟨_, _, _, _, rfl, by rw [if_neg (by decide)]⟩
      · rw [if_neg c4, if_neg c4]
        by_cases c5 : rd b (a : Int) > 10
        · obtain ⟨y0, y1, y2, y3, L, a', ho⟩ := op_long k b hB hl a c 0 c5 hk
          rw [ho, Option.bind_some, if_pos c5]
          dsimp only
          obtain ⟨q2, rfl⟩ : ∃ m, q2 = m + 1 := ⟨q2 - 1, by omega⟩
          rw [takeL_bad _ _ _ _ _ _ _ (by decide)]
          exact ⟨_, _, _, _, rfl, by rw [if_neg (by decide)]⟩
        · have ho := takeop_some k b hB hl a c 0 (by omega) hk
          rw [if_neg c5]
          cases hr : opR (hasK (rd b (a : Int))) b a with
          | none =>
            rw [hr] at ho
            obtain ⟨y0, y1, y2, y3, L, a', ho⟩ := ho
            rw [ho, Option.bind_some]
            dsimp only
            obtain ⟨q2, rfl⟩ : ∃ m, q2 = m + 1 := ⟨q2 - 1, by omega⟩
            rw [takeL_bad _ _ _ _ _ _ _ (by decide)]
            exact ⟨_, _, _, _, rfl, by rw [if_neg (by decide)]⟩
          | some r =>
            rw [hr] at ho
            obtain ⟨z1, z2⟩ := opR_le hr c r rfl
            have ho' : script_reader_op.f k b (a : Int) 0 0 = some (r.1.f0, r.1.f1, r.1.f2, r.1.f3, r.1.f4, (r.2 : Int), 0, 0) := ho
            rw [ho', Option.bind_some]
            dsimp only
            exact ih q1 r.2 (acc ++ [r.1]) (by rw [List.length_append]; simp; omega) (by rw [List.length_append]; simp; omega) z2 (by rw [List.length_append]; simp; omega)
    · rw [if_neg (show ¬ (a : Int) < (b.length : Int) by omega), if_neg c]
      exact ⟨_, _, _, _, rfl, by rw [if_pos rfl]⟩
/-- script.Take is the document's. -/
theorem takeF_some (k : Nat) (b : List Int) (hB : isBytes b) (hl : b.length ≤ 300000) (hk : 6000 ≤ k) : takeF k b = some (refT b) := by
  rcases begin_some k b hB hl (by omega) with ⟨c0, c1, c2, c3, a, bad, e, h1, he, hr⟩ | ⟨h5, h0, hc, h1⟩
  · rw [takeF_bad k b c0 c1 c2 c3 a bad e h1 he (by omega), hr]
  · rw [refT_tail b h5 h0 hc]
    rcases chs_some k b hB hl h5 hk (rd b 1, rd b 2, rd b 3, rd b 4) with ⟨ch, a, bad, e, g1, ge, gr⟩ | ⟨ch, a, ga, g1, gr⟩
    · unfold takeF
      rw [h1, Option.bind_some]
      dsimp only
      rw [g1, Option.bind_some]
      dsimp only
      rw [show takeL k b 500 [] a bad e = some ([], a, bad, e) from takeL_bad k 499 b [] a bad e ge, Option.bind_some]
      dsimp only
      rw [if_neg ge, gr]
    · unfold takeF
      rw [h1, Option.bind_some]
      dsimp only
      rw [g1, Option.bind_some]
      dsimp only
      obtain ⟨L, at_, bad, e, t1, t2⟩ := takeL_some k b hB hl (by omega) (rd b 1, rd b 2, rd b 3, rd b 4) ch 500 9010 a [] (by simp) (by simp) ga (by simp)
      rw [t1, Option.bind_some, gr, t2]
theorem sc_same_some (o : S39) : gunnyref39_Same.f o.f0 o.f1 o.f2 o.f3 o.f4 o.f0 o.f1 o.f2 o.f3 o.f4 = some true := by
  unfold gunnyref39_Same.f
  rw [if_pos rfl, if_pos rfl, if_pos rfl, if_pos rfl]
  simp
theorem sc_scripts_l1 (a0 a1 a2 a3 : Int) (c : List Bool) (l : List S39) (hl : l.length < 9223372036854775807) : ∀ (d k i : Nat), i + d = l.length → d < k → gunnyref39_Scripts.l1 k (i : Int) a0 a1 a2 a3 c l a0 a1 a2 a3 c l = some true := by
  intro d
  induction d with
  | zero =>
    intro k i h1 h2
    obtain ⟨k, rfl⟩ : ∃ m, k = m + 1 := ⟨k - 1, by omega⟩
    simp only [gunnyref39_Scripts.l1]
    rw [if_neg (by omega)]
  | succ d ih =>
    intro k i h1 h2
    obtain ⟨k, rfl⟩ : ∃ m, k = m + 1 := ⟨k - 1, by omega⟩
    have hn := ih k (i + 1) (by omega) (by omega)
    simp only [gunnyref39_Scripts.l1]
    rw [if_pos (by omega), if_pos (by omega), if_pos (by omega), bs (sc_same_some _), if_pos rfl, w64s i (by omega)]
    exact hn
theorem sc_scripts_l0 (a0 a1 a2 a3 : Int) (c : List Bool) (l : List S39) (hl : l.length < 9223372036854775807) (hc : c.length < 9223372036854775807) : ∀ (d k i : Nat), i + d = c.length → d + l.length + 1 < k → gunnyref39_Scripts.l0 k (i : Int) a0 a1 a2 a3 c l a0 a1 a2 a3 c l = some true := by
  intro d
  induction d with
  | zero =>
    intro k i h1 h2
    obtain ⟨k, rfl⟩ : ∃ m, k = m + 1 := ⟨k - 1, by omega⟩
    simp only [gunnyref39_Scripts.l0]
    rw [if_neg (by omega)]
    exact sc_scripts_l1 a0 a1 a2 a3 c l hl l.length k 0 (by omega) (by omega)
  | succ d ih =>
    intro k i h1 h2
    obtain ⟨k, rfl⟩ : ∃ m, k = m + 1 := ⟨k - 1, by omega⟩
    have hn := ih k (i + 1) (by omega) (by omega)
    simp only [gunnyref39_Scripts.l0]
    rw [if_pos (by omega), if_pos (by omega), if_pos (by omega), if_neg (by simp), w64s i (by omega)]
    exact hn
theorem sc_scripts_some (k : Nat) (a0 a1 a2 a3 : Int) (c : List Bool) (l : List S39) (hl : l.length ≤ 1000000) (hc : c.length ≤ 1000000) (hk : c.length + l.length + 3 < k) : gunnyref39_Scripts.f k a0 a1 a2 a3 c l a0 a1 a2 a3 c l = some true := by
  obtain ⟨k, rfl⟩ : ∃ m, k = m + 1 := ⟨k - 1, by omega⟩
  unfold gunnyref39_Scripts.f
  rw [if_neg (by simp), if_pos rfl, show ((l.length : Int) != (l.length : Int)) = false by simp]
  simp only [gunnyref39_Scripts.j0]
  rw [if_neg (by decide)]
  exact sc_scripts_l0 a0 a1 a2 a3 c l (by omega) (by omega) c.length k 0 (by omega) (by omega)
theorem chR_len (b : List Int) (n m : Nat) : ∀ (q i : Nat) (acc L : List Bool), chR b n m q i acc = some L → L.length ≤ acc.length + q := by
  intro q
  induction q with
  | zero => intro i acc L h; simp [chR] at h
  | succ q ih =>
    intro i acc L h
    rw [chR] at h
    split at h
    · split at h
      · have := ih _ _ _ h
        rw [List.length_append] at this
        simp at this
        omega
      · split at h
        · cases h
        · have := ih _ _ _ h
          omega
    · cases h
      omega
theorem opsR_len (b : List Int) (cf : Int × Int × Int × Int) (ch : List Bool) : ∀ (q : Nat) (acc : List S39) (a : Nat), acc.length ≤ 400 → (opsR b cf ch q acc a).2.1.length ≤ ch.length ∧ (opsR b cf ch q acc a).2.2.1.length ≤ 400 := by
  intro q
  induction q with
  | zero => intro acc a h; exact ⟨Nat.zero_le _, Nat.zero_le _⟩
  | succ q ih =>
    intro acc a h
    rw [opsR]
    split
    · split
      · exact ⟨Nat.zero_le _, Nat.zero_le _⟩
      · split
        · exact ⟨Nat.zero_le _, Nat.zero_le _⟩
        · split
          · exact ⟨Nat.zero_le _, Nat.zero_le _⟩
          · exact ih _ _ (by rw [List.length_append]; simp; omega)
    · exact ⟨Nat.le_refl _, h⟩
theorem refT_len (b : List Int) : (refT b).2.1.length ≤ 4010 ∧ (refT b).2.2.1.length ≤ 400 := by
  have z : ∀ x y : Int, (noT x y).2.1.length ≤ 4010 ∧ (noT x y).2.2.1.length ≤ 400 := fun _ _ => ⟨Nat.zero_le _, Nat.zero_le _⟩
  unfold refT
  split
  · exact z _ _
  split
  · exact z _ _
  split
  · exact z _ _
  dsimp only
  split
  · exact z _ _
  split
  · exact z _ _
  split
  · exact z _ _
  split
  · exact z _ _
  cases h : chR b (rd b 5 + 256 * rd b 6).toNat (8 * (((rd b 5 + 256 * rd b 6).toNat + 7) / 8)) 4010 0 [] with
  | none => exact z _ _
  | some ch =>
    have h1 := chR_len _ _ _ _ _ _ _ h
    have h2 := opsR_len b (rd b 1, rd b 2, rd b 3, rd b 4) ch 9010 [] (7 + ((rd b 5 + 256 * rd b 6).toNat + 7) / 8) (by simp)
    simp only [contR]
    exact ⟨Nat.le_trans h2.1 (by simpa using h1), h2.2⟩
end Go.Proofs.Ytldoaddeaiappaa.Hand
end
section
namespace Go.Proofs.Ytldoaddeaiappaa.Hand
set_option linter.unusedVariables false
set_option linter.unusedSimpArgs false
open Go.RowKit Go.Proofs.Ytldoaddeaiappaa.R Go.Proofs.Ytldoaddeaiappaa.Bits Go.Proofs.YtldoaddeaiappaaW.PrintWords Go.Proofs.YtldoaddeaiappaaW.PrintLast Go.Proofs.YtldoaddeaiappaaW.PrintMore
set_option maxHeartbeats 64000000 in
set_option maxRecDepth 100000 in
theorem ref_calls (A : Option Addr) (c : Nat) (b : List Int) (w : World) (hC : Kd.C (Kd.int .u8) w A b.length b) (hc : b.length ≤ c) (hl : b.length ≤ 9000) (hB : isBytes b) :
    Calls Try.prog 19 #[.slice A b.length c] w fun e w' => RefBack w w' (refT b) e := by
  have hR1 := Aside0.mk (blk_new w (O48 0 0))
  have hb1 := Aside0.mk (below_alloc (Below.refl w.heap.size w) (O48 0 0))
  have hsz := Aside0.mk (World.size_alloc w (O48 0 0))
  have hz : b.length = 0 ∨ ∃ A', A = some A' := by
    rcases Nat.eq_zero_or_pos b.length with h | h
    · exact .inl h
    · obtain ⟨ad, h1, _⟩ := hC.2.2 h
      exact .inr ⟨ad, h1⟩
  replace hC := Aside0.mk hC
  replace hc := Aside0.mk hc
  replace hl := Aside0.mk hl
  replace hB := Aside0.mk hB
  replace hz := Aside0.mk hz
  go_enter Try.func19, Try.ntmps19
  go_upto_region 1 with (fail)
  generalize w.alloc (O48 0 0) = w1 at hR1 hb1 hsz ⊢
  have z0_w1 : w1.cell? ⟨w.heap.size, 0, none⟩ = some (.int .i64 0) := (blk_cell hR1.out 0).trans rfl
  have z1_w1 : w1.cell? ⟨w.heap.size, 1, none⟩ = some (.int .i64 0) := (blk_cell hR1.out 1).trans rfl
  have z2_w1 : w1.cell? ⟨w.heap.size, 2, none⟩ = some (.int .i64 0) := (blk_cell hR1.out 2).trans rfl
  have z3_w1 : w1.cell? ⟨w.heap.size, 3, none⟩ = some (.int .i64 0) := (blk_cell hR1.out 3).trans rfl
  have z4_w1 : w1.cell? ⟨w.heap.size, 4, none⟩ = some (.slice none 0 0) := (blk_cell hR1.out 4).trans rfl
  have z5_w1 : w1.cell? ⟨w.heap.size, 5, none⟩ = some (.slice none 0 0) := (blk_cell hR1.out 5).trans rfl
  have z6_w1 : w1.cell? ⟨w.heap.size, 6, none⟩ = some (.int .i64 0) := (blk_cell hR1.out 6).trans rfl
  have z7_w1 : w1.cell? ⟨w.heap.size, 7, none⟩ = some (.int .i64 0) := (blk_cell hR1.out 7).trans rfl
  have zf_w1 := fun i => blk_frozen hR1.out i
  by_cases c0 : b.length < 1
  case pos =>
    -- [[
    have d0 : decide (b.length < 1) = true := decide_eq_true c0
    have d0' : decide ((b.length : Int) < 1) = true := decide_eq_true (by omega)
    have d0'' : b.length = 0 := by omega
    go_wp2
    refine bodyPost_ret (results_cell_row rfl _ _ w.heap.size 48 #[.int .i64 0, .int .i64 0, .int .i64 0, .int .i64 0, .slice none 0 0, .slice none 0 0, .int .i64 0, .int .i64 4] (0, 0) _ rfl (by refine blk_put (cs := #[.int .i64 0, .int .i64 0, .int .i64 0, .int .i64 0, .slice none 0 0, .slice none 0 0, .int .i64 0, .int .i64 0]) ?_ 7 _ rfl; refine blk_put (cs := #[.int .i64 0, .int .i64 0, .int .i64 0, .int .i64 0, .slice none 0 0, .slice none 0 0, .int .i64 0, .int .i64 0]) ?_ 6 _ rfl; refine blk_put (cs := #[.int .i64 0, .int .i64 0, .int .i64 0, .int .i64 0, .slice none 0 0, .slice none 0 0, .int .i64 0, .int .i64 0]) ?_ 5 _ rfl; refine blk_put (cs := #[.int .i64 0, .int .i64 0, .int .i64 0, .int .i64 0, .slice none 0 0, .slice none 0 0, .int .i64 0, .int .i64 0]) ?_ 4 _ rfl; refine blk_put (cs := #[.int .i64 0, .int .i64 0, .int .i64 0, .int .i64 0, .slice none 0 0, .slice none 0 0, .int .i64 0, .int .i64 0]) ?_ 3 _ rfl; refine blk_put (cs := #[.int .i64 0, .int .i64 0, .int .i64 0, .int .i64 0, .slice none 0 0, .slice none 0 0, .int .i64 0, .int .i64 0]) ?_ 2 _ rfl; refine blk_put (cs := #[.int .i64 0, .int .i64 0, .int .i64 0, .int .i64 0, .slice none 0 0, .slice none 0 0, .int .i64 0, .int .i64 0]) ?_ 1 _ rfl; refine blk_put (cs := #[.int .i64 0, .int .i64 0, .int .i64 0, .int .i64 0, .slice none 0 0, .slice none 0 0, .int .i64 0, .int .i64 0]) ?_ 0 _ rfl; exact hR1.out) Try.underlying48 rfl (by kernel_rfl)) rfl ?_
    have hv : refT b = noT 0 4 := by
      unfold refT
      rw [if_pos c0]
    rw [hv]
    exact ref_no w _ _ _ (by repeat (first | (with_reducible exact hb1.out) | (with_reducible refine below_drew1 ?_) | (refine below_set ?_ (Nat.le_refl _))))
    -- ]]
  have d0 : decide (b.length < 1) = false := decide_eq_false c0
  have d0' : decide ((b.length : Int) < 1) = false := decide_eq_false (by omega)
  have d0'' : 0 < b.length := by omega
  have d0n : ¬ b.length = 0 := by omega
  obtain ⟨A', hA'⟩ : ∃ A', A = some A' := hz.out.resolve_left d0n
  subst hA'
  have hrd := Aside0.mk (fun (w' : World) (hb : Below w.heap.size w w') (i : Nat) (hi : i < b.length) => (show w'.cell? (A'.add i) = some (.int .u8 (rd b (i : Int))) by
    obtain ⟨ad, ea, ca⟩ := Kd.at_int (Kd.C_below hC.out hb) (i : Int) (by omega) (by omega)
    cases ea
    rw [Int.toNat_natCast] at ca
    exact ca))
  obtain ⟨x0, hx0⟩ : ∃ x0, x0 = rd b 0 := ⟨_, rfl⟩
  have rx0 : w1.cell? (A'.add 0) = some (.int .u8 x0) := (hrd.out w1 hb1.out 0 (by omega)).trans (by rw [hx0]; rfl)
  have tx0 := rd_byte hB.out 0 (by omega)
  replace tx0 : 0 ≤ x0 ∧ x0 < 256 := by rw [hx0]; exact tx0
  have ux0 : wrap64 x0 = x0 := wrap_id (by omega) (by omega)
  have vx0 : IntKind.i64.wrap x0 = x0 := (i64_w x0).trans ux0
  replace tx0 := Aside0.mk tx0
  replace hx0 := Aside0.mk hx0
  have rx0' : w1.cell? A' = some (.int .u8 x0) := (congrArg w1.cell? (addr_add_zero A')).symm.trans rx0
  by_cases c1 : x0 = 71
  case neg =>
    -- [[
    have d1 : (x0 == 71) = false := beq_eq_false_iff_ne.mpr c1
    have d1' : (x0 != 71) = true := bne_iff_ne.mpr c1
    go_wp2
    refine bodyPost_ret (results_cell_row rfl _ _ w.heap.size 48 #[.int .i64 0, .int .i64 0, .int .i64 0, .int .i64 0, .slice none 0 0, .slice none 0 0, .int .i64 0, .int .i64 3] (0, 0) _ rfl (by refine blk_put (cs := #[.int .i64 0, .int .i64 0, .int .i64 0, .int .i64 0, .slice none 0 0, .slice none 0 0, .int .i64 0, .int .i64 0]) ?_ 7 _ rfl; refine blk_put (cs := #[.int .i64 0, .int .i64 0, .int .i64 0, .int .i64 0, .slice none 0 0, .slice none 0 0, .int .i64 0, .int .i64 0]) ?_ 6 _ rfl; refine blk_put (cs := #[.int .i64 0, .int .i64 0, .int .i64 0, .int .i64 0, .slice none 0 0, .slice none 0 0, .int .i64 0, .int .i64 0]) ?_ 5 _ rfl; refine blk_put (cs := #[.int .i64 0, .int .i64 0, .int .i64 0, .int .i64 0, .slice none 0 0, .slice none 0 0, .int .i64 0, .int .i64 0]) ?_ 4 _ rfl; refine blk_put (cs := #[.int .i64 0, .int .i64 0, .int .i64 0, .int .i64 0, .slice none 0 0, .slice none 0 0, .int .i64 0, .int .i64 0]) ?_ 3 _ rfl; refine blk_put (cs := #[.int .i64 0, .int .i64 0, .int .i64 0, .int .i64 0, .slice none 0 0, .slice none 0 0, .int .i64 0, .int .i64 0]) ?_ 2 _ rfl; refine blk_put (cs := #[.int .i64 0, .int .i64 0, .int .i64 0, .int .i64 0, .slice none 0 0, .slice none 0 0, .int .i64 0, .int .i64 0]) ?_ 1 _ rfl; refine blk_put (cs := #[.int .i64 0, .int .i64 0, .int .i64 0, .int .i64 0, .slice none 0 0, .slice none 0 0, .int .i64 0, .int .i64 0]) ?_ 0 _ rfl; exact hR1.out) Try.underlying48 rfl (by kernel_rfl)) rfl ?_
    have hv : refT b = noT 0 3 := by
      unfold refT
      rw [if_neg c0]
      rw [if_pos (by rw [← hx0.out]; exact c1)]
    rw [hv]
    exact ref_no w _ _ _ (by repeat (first | (with_reducible exact hb1.out) | (with_reducible refine below_drew1 ?_) | (refine below_set ?_ (Nat.le_refl _))))
    -- ]]
  have d1 : (x0 == 71) = true := beq_iff_eq.mpr c1
  have d1' : (x0 != 71) = false := by simp [c1]
  replace c1 := Aside0.mk c1
  by_cases c2 : b.length < 5
  case pos =>
    -- [[
    have d2 : decide (b.length < 5) = true := decide_eq_true c2
    have d2' : decide ((b.length : Int) < 5) = true := decide_eq_true (by omega)
    go_wp2
    refine bodyPost_ret (results_cell_row rfl _ _ w.heap.size 48 #[.int .i64 0, .int .i64 0, .int .i64 0, .int .i64 0, .slice none 0 0, .slice none 0 0, .int .i64 (b.length : Int), .int .i64 4] (0, 0) _ rfl (by refine blk_put (cs := #[.int .i64 0, .int .i64 0, .int .i64 0, .int .i64 0, .slice none 0 0, .slice none 0 0, .int .i64 (b.length : Int), .int .i64 0]) ?_ 7 _ rfl; refine blk_put (cs := #[.int .i64 0, .int .i64 0, .int .i64 0, .int .i64 0, .slice none 0 0, .slice none 0 0, .int .i64 0, .int .i64 0]) ?_ 6 _ rfl; refine blk_put (cs := #[.int .i64 0, .int .i64 0, .int .i64 0, .int .i64 0, .slice none 0 0, .slice none 0 0, .int .i64 0, .int .i64 0]) ?_ 5 _ rfl; refine blk_put (cs := #[.int .i64 0, .int .i64 0, .int .i64 0, .int .i64 0, .slice none 0 0, .slice none 0 0, .int .i64 0, .int .i64 0]) ?_ 4 _ rfl; refine blk_put (cs := #[.int .i64 0, .int .i64 0, .int .i64 0, .int .i64 0, .slice none 0 0, .slice none 0 0, .int .i64 0, .int .i64 0]) ?_ 3 _ rfl; refine blk_put (cs := #[.int .i64 0, .int .i64 0, .int .i64 0, .int .i64 0, .slice none 0 0, .slice none 0 0, .int .i64 0, .int .i64 0]) ?_ 2 _ rfl; refine blk_put (cs := #[.int .i64 0, .int .i64 0, .int .i64 0, .int .i64 0, .slice none 0 0, .slice none 0 0, .int .i64 0, .int .i64 0]) ?_ 1 _ rfl; refine blk_put (cs := #[.int .i64 0, .int .i64 0, .int .i64 0, .int .i64 0, .slice none 0 0, .slice none 0 0, .int .i64 0, .int .i64 0]) ?_ 0 _ rfl; exact hR1.out) Try.underlying48 rfl (by kernel_rfl)) rfl ?_
    have hv : refT b = noT (b.length : Int) 4 := by
      unfold refT
      rw [if_neg c0]
      rw [if_neg (by rw [← hx0.out]; exact fun h => h c1.out)]
      rw [if_pos c2]
    rw [hv]
    exact ref_no w _ _ _ (by repeat (first | (with_reducible exact hb1.out) | (with_reducible refine below_drew1 ?_) | (refine below_set ?_ (Nat.le_refl _))))
    -- ]]
  have d2 : decide (b.length < 5) = false := decide_eq_false c2
  have d2' : decide ((b.length : Int) < 5) = false := decide_eq_false (by omega)
  have e1 : (1 : Int) < (b.length : Int) := by omega
  have e2 : (2 : Int) < (b.length : Int) := by omega
  have e3 : (3 : Int) < (b.length : Int) := by omega
  have e4 : (4 : Int) < (b.length : Int) := by omega
  obtain ⟨x1, hx1⟩ : ∃ x1, x1 = rd b 1 := ⟨_, rfl⟩
  have rx1 : w1.cell? (A'.add 1) = some (.int .u8 x1) := (hrd.out w1 hb1.out 1 (by omega)).trans (by rw [hx1]; rfl)
  have tx1 := rd_byte hB.out 1 (by omega)
  replace tx1 : 0 ≤ x1 ∧ x1 < 256 := by rw [hx1]; exact tx1
  have ux1 : wrap64 x1 = x1 := wrap_id (by omega) (by omega)
  have vx1 : IntKind.i64.wrap x1 = x1 := (i64_w x1).trans ux1
  replace tx1 := Aside0.mk tx1
  replace hx1 := Aside0.mk hx1
  replace rx1 : w1.cell? ⟨A'.block, A'.off + 1, none⟩ = some (.int .u8 x1) := rx1
  obtain ⟨x2, hx2⟩ : ∃ x2, x2 = rd b 2 := ⟨_, rfl⟩
  have rx2 : w1.cell? (A'.add 2) = some (.int .u8 x2) := (hrd.out w1 hb1.out 2 (by omega)).trans (by rw [hx2]; rfl)
  have tx2 := rd_byte hB.out 2 (by omega)
  replace tx2 : 0 ≤ x2 ∧ x2 < 256 := by rw [hx2]; exact tx2
  have ux2 : wrap64 x2 = x2 := wrap_id (by omega) (by omega)
  have vx2 : IntKind.i64.wrap x2 = x2 := (i64_w x2).trans ux2
  replace tx2 := Aside0.mk tx2
  replace hx2 := Aside0.mk hx2
  replace rx2 : w1.cell? ⟨A'.block, A'.off + 2, none⟩ = some (.int .u8 x2) := rx2
  obtain ⟨x3, hx3⟩ : ∃ x3, x3 = rd b 3 := ⟨_, rfl⟩
  have rx3 : w1.cell? (A'.add 3) = some (.int .u8 x3) := (hrd.out w1 hb1.out 3 (by omega)).trans (by rw [hx3]; rfl)
  have tx3 := rd_byte hB.out 3 (by omega)
  replace tx3 : 0 ≤ x3 ∧ x3 < 256 := by rw [hx3]; exact tx3
  have ux3 : wrap64 x3 = x3 := wrap_id (by omega) (by omega)
  have vx3 : IntKind.i64.wrap x3 = x3 := (i64_w x3).trans ux3
  replace tx3 := Aside0.mk tx3
  replace hx3 := Aside0.mk hx3
  replace rx3 : w1.cell? ⟨A'.block, A'.off + 3, none⟩ = some (.int .u8 x3) := rx3
  obtain ⟨x4, hx4⟩ : ∃ x4, x4 = rd b 4 := ⟨_, rfl⟩
  have rx4 : w1.cell? (A'.add 4) = some (.int .u8 x4) := (hrd.out w1 hb1.out 4 (by omega)).trans (by rw [hx4]; rfl)
  have tx4 := rd_byte hB.out 4 (by omega)
  replace tx4 : 0 ≤ x4 ∧ x4 < 256 := by rw [hx4]; exact tx4
  have ux4 : wrap64 x4 = x4 := wrap_id (by omega) (by omega)
  have vx4 : IntKind.i64.wrap x4 = x4 := (i64_w x4).trans ux4
  replace tx4 := Aside0.mk tx4
  replace hx4 := Aside0.mk hx4
  replace rx4 : w1.cell? ⟨A'.block, A'.off + 4, none⟩ = some (.int .u8 x4) := rx4
  go_upto_region 7 with (fail)
  go_region_held3 (fun w' => w'.cell? ⟨A'.block, A'.off + 1, none⟩ = some (.int .u8 x1) ∧ w'.cell? ⟨A'.block, A'.off + 2, none⟩ = some (.int .u8 x2) ∧ w'.cell? ⟨A'.block, A'.off + 3, none⟩ = some (.int .u8 x3) ∧ w'.cell? ⟨A'.block, A'.off + 4, none⟩ = some (.int .u8 x4)) (first | go_keep) (fail)
  have hS2 := Aside0.mk (blk_drew (blk_new w1 (.cells #[.int .i64 x1, .int .i64 x2, .int .i64 x3, .int .i64 x4, .slice none 0 0, .slice none 0 0] 27 (0, 0))))
  have hR2 := Aside0.mk (blk_drew (blk_alloc hR1.out (.cells #[.int .i64 x1, .int .i64 x2, .int .i64 x3, .int .i64 x4, .slice none 0 0, .slice none 0 0] 27 (0, 0))))
  have hb2 := Aside0.mk (below_drew1 (below_alloc hb1.out (.cells #[.int .i64 x1, .int .i64 x2, .int .i64 x3, .int .i64 x4, .slice none 0 0, .slice none 0 0] 27 (0, 0))))
  obtain ⟨gs, hgs⟩ : ∃ gs, gs = w1.heap.size := ⟨_, rfl⟩
  have hgn : w.heap.size < gs := by have := hsz.out; omega
  replace hgn := Aside0.mk hgn
  rw [← hgs] at hS2 ⊢
  replace hgs := Aside0.mk hgs
  clear rx1 rx2 rx3 rx4 rx0 rx0'
  clear z0_w1 z1_w1 z2_w1 z3_w1 z4_w1 z5_w1 z6_w1 z7_w1 zf_w1
  generalize (w1.alloc (.cells #[.int .i64 x1, .int .i64 x2, .int .i64 x3, .int .i64 x4, .slice none 0 0, .slice none 0 0] 27 (0, 0))).drew = w2 at hS2 hR2 hb2 ⊢
  have s0_w2 : w2.cell? ⟨gs, 0, none⟩ = some (.int .i64 x1) := (blk_cell hS2.out 0).trans rfl
  have s1_w2 : w2.cell? ⟨gs, 1, none⟩ = some (.int .i64 x2) := (blk_cell hS2.out 1).trans rfl
  have s2_w2 : w2.cell? ⟨gs, 2, none⟩ = some (.int .i64 x3) := (blk_cell hS2.out 2).trans rfl
  have s3_w2 : w2.cell? ⟨gs, 3, none⟩ = some (.int .i64 x4) := (blk_cell hS2.out 3).trans rfl
  have s4_w2 : w2.cell? ⟨gs, 4, none⟩ = some (.slice none 0 0) := (blk_cell hS2.out 4).trans rfl
  have s5_w2 : w2.cell? ⟨gs, 5, none⟩ = some (.slice none 0 0) := (blk_cell hS2.out 5).trans rfl
  have sf_w2 := fun i => blk_frozen hS2.out i
  obtain ⟨cb, hcb⟩ : ∃ cb, confB (x1, x2, x3, x4) = cb := ⟨_, rfl⟩
  have hConf := Aside0.mk (fun W => gunnyref39_Conf.calls x1 x2 x3 x4 cb W ((rconf_some x1 x2 x3 x4).trans (congrArg some hcb)))
  replace hcb := Aside0.mk hcb
  cases cb
  case false =>
    -- [[
    go_upto_region 9 with (go_at_call 20; refine (hConf.out _).mono ?_; rintro e w3 ⟨rfl, hbc⟩; have hR3 := Aside0.mk (blk_below hR2.out hbc); have hb3 := Aside0.mk (below_step hb2.out hbc); clear hbc)
    have z0_w3 : w3.cell? ⟨w.heap.size, 0, none⟩ = some (.int .i64 0) := (blk_cell hR3.out 0).trans rfl
    have z1_w3 : w3.cell? ⟨w.heap.size, 1, none⟩ = some (.int .i64 0) := (blk_cell hR3.out 1).trans rfl
    have z2_w3 : w3.cell? ⟨w.heap.size, 2, none⟩ = some (.int .i64 0) := (blk_cell hR3.out 2).trans rfl
    have z3_w3 : w3.cell? ⟨w.heap.size, 3, none⟩ = some (.int .i64 0) := (blk_cell hR3.out 3).trans rfl
    have z4_w3 : w3.cell? ⟨w.heap.size, 4, none⟩ = some (.slice none 0 0) := (blk_cell hR3.out 4).trans rfl
    have z5_w3 : w3.cell? ⟨w.heap.size, 5, none⟩ = some (.slice none 0 0) := (blk_cell hR3.out 5).trans rfl
    have z6_w3 : w3.cell? ⟨w.heap.size, 6, none⟩ = some (.int .i64 0) := (blk_cell hR3.out 6).trans rfl
    have z7_w3 : w3.cell? ⟨w.heap.size, 7, none⟩ = some (.int .i64 0) := (blk_cell hR3.out 7).trans rfl
    have zf_w3 := fun i => blk_frozen hR3.out i
    go_wp2
    refine bodyPost_ret (results_cell_row rfl _ _ w.heap.size 48 #[.int .i64 0, .int .i64 0, .int .i64 0, .int .i64 0, .slice none 0 0, .slice none 0 0, .int .i64 1, .int .i64 1] (0, 0) _ rfl (by refine blk_put (cs := #[.int .i64 0, .int .i64 0, .int .i64 0, .int .i64 0, .slice none 0 0, .slice none 0 0, .int .i64 1, .int .i64 0]) ?_ 7 _ rfl; refine blk_put (cs := #[.int .i64 0, .int .i64 0, .int .i64 0, .int .i64 0, .slice none 0 0, .slice none 0 0, .int .i64 0, .int .i64 0]) ?_ 6 _ rfl; refine blk_put (cs := #[.int .i64 0, .int .i64 0, .int .i64 0, .int .i64 0, .slice none 0 0, .slice none 0 0, .int .i64 0, .int .i64 0]) ?_ 5 _ rfl; refine blk_put (cs := #[.int .i64 0, .int .i64 0, .int .i64 0, .int .i64 0, .slice none 0 0, .slice none 0 0, .int .i64 0, .int .i64 0]) ?_ 4 _ rfl; refine blk_put (cs := #[.int .i64 0, .int .i64 0, .int .i64 0, .int .i64 0, .slice none 0 0, .slice none 0 0, .int .i64 0, .int .i64 0]) ?_ 3 _ rfl; refine blk_put (cs := #[.int .i64 0, .int .i64 0, .int .i64 0, .int .i64 0, .slice none 0 0, .slice none 0 0, .int .i64 0, .int .i64 0]) ?_ 2 _ rfl; refine blk_put (cs := #[.int .i64 0, .int .i64 0, .int .i64 0, .int .i64 0, .slice none 0 0, .slice none 0 0, .int .i64 0, .int .i64 0]) ?_ 1 _ rfl; refine blk_put (cs := #[.int .i64 0, .int .i64 0, .int .i64 0, .int .i64 0, .slice none 0 0, .slice none 0 0, .int .i64 0, .int .i64 0]) ?_ 0 _ rfl; exact hR3.out) Try.underlying48 rfl (by kernel_rfl)) rfl ?_
    have hv : refT b = noT 1 1 := by
      unfold refT
      rw [if_neg c0]
      rw [if_neg (by rw [← hx0.out]; exact fun h => h c1.out)]
      rw [if_neg c2]
      rw [← hx1.out, ← hx2.out, ← hx3.out, ← hx4.out]
      dsimp only
      rw [if_pos hcb.out]
    rw [hv]
    exact ref_no w _ _ _ (by repeat (first | (with_reducible exact hb3.out) | (with_reducible refine below_drew1 ?_) | (refine below_set ?_ (Nat.le_refl _))))
    -- ]]
  go_upto_region 10 with (go_at_call 20; refine (hConf.out _).mono ?_; rintro e w3 ⟨rfl, hbc⟩; have hR3 := Aside0.mk (blk_below hR2.out hbc); have hS3 := Aside0.mk (blk_below hS2.out hbc); have hb3 := Aside0.mk (below_step hb2.out hbc); clear hbc)
  clear s0_w2 s1_w2 s2_w2 s3_w2 s4_w2 s5_w2 sf_w2
  have z0_w3 : w3.cell? ⟨w.heap.size, 0, none⟩ = some (.int .i64 0) := (blk_cell hR3.out 0).trans rfl
  have z1_w3 : w3.cell? ⟨w.heap.size, 1, none⟩ = some (.int .i64 0) := (blk_cell hR3.out 1).trans rfl
  have z2_w3 : w3.cell? ⟨w.heap.size, 2, none⟩ = some (.int .i64 0) := (blk_cell hR3.out 2).trans rfl
  have z3_w3 : w3.cell? ⟨w.heap.size, 3, none⟩ = some (.int .i64 0) := (blk_cell hR3.out 3).trans rfl
  have z4_w3 : w3.cell? ⟨w.heap.size, 4, none⟩ = some (.slice none 0 0) := (blk_cell hR3.out 4).trans rfl
  have z5_w3 : w3.cell? ⟨w.heap.size, 5, none⟩ = some (.slice none 0 0) := (blk_cell hR3.out 5).trans rfl
  have z6_w3 : w3.cell? ⟨w.heap.size, 6, none⟩ = some (.int .i64 0) := (blk_cell hR3.out 6).trans rfl
  have z7_w3 : w3.cell? ⟨w.heap.size, 7, none⟩ = some (.int .i64 0) := (blk_cell hR3.out 7).trans rfl
  have zf_w3 := fun i => blk_frozen hR3.out i
  by_cases c4 : b.length < 7
  case pos =>
    -- [[
    have d4 : decide (b.length < 7) = true := decide_eq_true c4
    have d4' : decide ((b.length : Int) < 7) = true := decide_eq_true (by omega)
    go_wp2
    refine bodyPost_ret (results_cell_row rfl _ _ w.heap.size 48 #[.int .i64 0, .int .i64 0, .int .i64 0, .int .i64 0, .slice none 0 0, .slice none 0 0, .int .i64 (b.length : Int), .int .i64 4] (0, 0) _ rfl (by refine blk_put (cs := #[.int .i64 0, .int .i64 0, .int .i64 0, .int .i64 0, .slice none 0 0, .slice none 0 0, .int .i64 (b.length : Int), .int .i64 0]) ?_ 7 _ rfl; refine blk_put (cs := #[.int .i64 0, .int .i64 0, .int .i64 0, .int .i64 0, .slice none 0 0, .slice none 0 0, .int .i64 0, .int .i64 0]) ?_ 6 _ rfl; refine blk_put (cs := #[.int .i64 0, .int .i64 0, .int .i64 0, .int .i64 0, .slice none 0 0, .slice none 0 0, .int .i64 0, .int .i64 0]) ?_ 5 _ rfl; refine blk_put (cs := #[.int .i64 0, .int .i64 0, .int .i64 0, .int .i64 0, .slice none 0 0, .slice none 0 0, .int .i64 0, .int .i64 0]) ?_ 4 _ rfl; refine blk_put (cs := #[.int .i64 0, .int .i64 0, .int .i64 0, .int .i64 0, .slice none 0 0, .slice none 0 0, .int .i64 0, .int .i64 0]) ?_ 3 _ rfl; refine blk_put (cs := #[.int .i64 0, .int .i64 0, .int .i64 0, .int .i64 0, .slice none 0 0, .slice none 0 0, .int .i64 0, .int .i64 0]) ?_ 2 _ rfl; refine blk_put (cs := #[.int .i64 0, .int .i64 0, .int .i64 0, .int .i64 0, .slice none 0 0, .slice none 0 0, .int .i64 0, .int .i64 0]) ?_ 1 _ rfl; refine blk_put (cs := #[.int .i64 0, .int .i64 0, .int .i64 0, .int .i64 0, .slice none 0 0, .slice none 0 0, .int .i64 0, .int .i64 0]) ?_ 0 _ rfl; exact hR3.out) Try.underlying48 rfl (by kernel_rfl)) rfl ?_
    have hv : refT b = noT (b.length : Int) 4 := by
      unfold refT
      rw [if_neg c0]
      rw [if_neg (by rw [← hx0.out]; exact fun h => h c1.out)]
      rw [if_neg c2]
      rw [← hx1.out, ← hx2.out, ← hx3.out, ← hx4.out]
      dsimp only
      rw [if_neg (by rw [hcb.out]; decide)]
      rw [if_pos c4]
    rw [hv]
    exact ref_no w _ _ _ (by repeat (first | (with_reducible exact hb3.out) | (with_reducible refine below_drew1 ?_) | (refine below_set ?_ (Nat.le_refl _))))
    -- ]]
  have d4 : decide (b.length < 7) = false := decide_eq_false c4
  have d4' : decide ((b.length : Int) < 7) = false := decide_eq_false (by omega)
  have e5 : (5 : Int) < (b.length : Int) := by omega
  have e6 : (6 : Int) < (b.length : Int) := by omega
  obtain ⟨x5, hx5⟩ : ∃ x5, x5 = rd b 5 := ⟨_, rfl⟩
  have rx5 : w3.cell? (A'.add 5) = some (.int .u8 x5) := (hrd.out w3 hb3.out 5 (by omega)).trans (by rw [hx5]; rfl)
  have tx5 := rd_byte hB.out 5 (by omega)
  replace tx5 : 0 ≤ x5 ∧ x5 < 256 := by rw [hx5]; exact tx5
  have ux5 : wrap64 x5 = x5 := wrap_id (by omega) (by omega)
  have vx5 : IntKind.i64.wrap x5 = x5 := (i64_w x5).trans ux5
  replace tx5 := Aside0.mk tx5
  replace hx5 := Aside0.mk hx5
  replace rx5 : w3.cell? ⟨A'.block, A'.off + 5, none⟩ = some (.int .u8 x5) := rx5
  obtain ⟨x6, hx6⟩ : ∃ x6, x6 = rd b 6 := ⟨_, rfl⟩
  have rx6 : w3.cell? (A'.add 6) = some (.int .u8 x6) := (hrd.out w3 hb3.out 6 (by omega)).trans (by rw [hx6]; rfl)
  have tx6 := rd_byte hB.out 6 (by omega)
  replace tx6 : 0 ≤ x6 ∧ x6 < 256 := by rw [hx6]; exact tx6
  have ux6 : wrap64 x6 = x6 := wrap_id (by omega) (by omega)
  have vx6 : IntKind.i64.wrap x6 = x6 := (i64_w x6).trans ux6
  replace tx6 := Aside0.mk tx6
  replace hx6 := Aside0.mk hx6
  replace rx6 : w3.cell? ⟨A'.block, A'.off + 6, none⟩ = some (.int .u8 x6) := rx6
  obtain ⟨n, hn⟩ : ∃ n : Nat, n = (x5 + 256 * x6).toNat := ⟨_, rfl⟩
  have wn0 : wrap64 (256 * x6) = 256 * x6 := wrap_id (by have := tx6.out; omega) (by have := tx6.out; omega)
  have wn1 : wrap64 (x5 + 256 * x6) = (n : Int) := by have := tx6.out; have := tx5.out; unfold wrap64; omega
  have vn0 : IntKind.i64.wrap (256 * x6) = 256 * x6 := (i64_w _).trans wn0
  have vn1 : IntKind.i64.wrap (x5 + 256 * x6) = (n : Int) := (i64_w _).trans wn1
  have hn6 : n < 65536 := by have := tx6.out; have := tx5.out; omega
  replace hn := Aside0.mk hn
  go_upto_region 12 with (fail)
  go_quiet (fail)
  have hS4 := Aside0.mk (blk_drewN hS3.out nq)
  have hR4 := Aside0.mk (blk_drewN hR3.out nq)
  have hb4 := Aside0.mk (pw_below_drewN hb3.out nq)
  clear z0_w3 z1_w3 z2_w3 z3_w3 z4_w3 z5_w3 z6_w3 z7_w3 zf_w3
  clear rx5 rx6 hS3 hR3 hb3
  generalize w3.drewN nq = w4 at hS4 hR4 hb4 ⊢
  have z0_w4 : w4.cell? ⟨w.heap.size, 0, none⟩ = some (.int .i64 0) := (blk_cell hR4.out 0).trans rfl
  have z1_w4 : w4.cell? ⟨w.heap.size, 1, none⟩ = some (.int .i64 0) := (blk_cell hR4.out 1).trans rfl
  have z2_w4 : w4.cell? ⟨w.heap.size, 2, none⟩ = some (.int .i64 0) := (blk_cell hR4.out 2).trans rfl
  have z3_w4 : w4.cell? ⟨w.heap.size, 3, none⟩ = some (.int .i64 0) := (blk_cell hR4.out 3).trans rfl
  have z4_w4 : w4.cell? ⟨w.heap.size, 4, none⟩ = some (.slice none 0 0) := (blk_cell hR4.out 4).trans rfl
  have z5_w4 : w4.cell? ⟨w.heap.size, 5, none⟩ = some (.slice none 0 0) := (blk_cell hR4.out 5).trans rfl
  have z6_w4 : w4.cell? ⟨w.heap.size, 6, none⟩ = some (.int .i64 0) := (blk_cell hR4.out 6).trans rfl
  have z7_w4 : w4.cell? ⟨w.heap.size, 7, none⟩ = some (.int .i64 0) := (blk_cell hR4.out 7).trans rfl
  have zf_w4 := fun i => blk_frozen hR4.out i
  by_cases c5 : 4000 < n
  case pos =>
    -- [[
    obtain ⟨d5, d5'⟩ := tk_gt' c5
    go_wp2
    refine bodyPost_ret (results_cell_row rfl _ _ w.heap.size 48 #[.int .i64 0, .int .i64 0, .int .i64 0, .int .i64 0, .slice none 0 0, .slice none 0 0, .int .i64 5, .int .i64 5] (0, 0) _ rfl (by refine blk_put (cs := #[.int .i64 0, .int .i64 0, .int .i64 0, .int .i64 0, .slice none 0 0, .slice none 0 0, .int .i64 5, .int .i64 0]) ?_ 7 _ rfl; refine blk_put (cs := #[.int .i64 0, .int .i64 0, .int .i64 0, .int .i64 0, .slice none 0 0, .slice none 0 0, .int .i64 0, .int .i64 0]) ?_ 6 _ rfl; refine blk_put (cs := #[.int .i64 0, .int .i64 0, .int .i64 0, .int .i64 0, .slice none 0 0, .slice none 0 0, .int .i64 0, .int .i64 0]) ?_ 5 _ rfl; refine blk_put (cs := #[.int .i64 0, .int .i64 0, .int .i64 0, .int .i64 0, .slice none 0 0, .slice none 0 0, .int .i64 0, .int .i64 0]) ?_ 4 _ rfl; refine blk_put (cs := #[.int .i64 0, .int .i64 0, .int .i64 0, .int .i64 0, .slice none 0 0, .slice none 0 0, .int .i64 0, .int .i64 0]) ?_ 3 _ rfl; refine blk_put (cs := #[.int .i64 0, .int .i64 0, .int .i64 0, .int .i64 0, .slice none 0 0, .slice none 0 0, .int .i64 0, .int .i64 0]) ?_ 2 _ rfl; refine blk_put (cs := #[.int .i64 0, .int .i64 0, .int .i64 0, .int .i64 0, .slice none 0 0, .slice none 0 0, .int .i64 0, .int .i64 0]) ?_ 1 _ rfl; refine blk_put (cs := #[.int .i64 0, .int .i64 0, .int .i64 0, .int .i64 0, .slice none 0 0, .slice none 0 0, .int .i64 0, .int .i64 0]) ?_ 0 _ rfl; exact hR4.out) Try.underlying48 rfl (by kernel_rfl)) rfl ?_
    have hv : refT b = noT 5 5 := by
      unfold refT
      rw [if_neg c0]
      rw [if_neg (by rw [← hx0.out]; exact fun h => h c1.out)]
      rw [if_neg c2]
      rw [← hx1.out, ← hx2.out, ← hx3.out, ← hx4.out]
      dsimp only
      rw [if_neg (by rw [hcb.out]; decide)]
      rw [if_neg c4]
      rw [← hx5.out, ← hx6.out, ← hn.out]
      rw [if_pos c5]
    rw [hv]
    exact ref_no w _ _ _ (by repeat (first | (with_reducible exact hb4.out) | (with_reducible refine below_drew1 ?_) | (refine below_set ?_ (Nat.le_refl _))))
    -- ]]
  obtain ⟨d5, d5'⟩ := tk_gt c5
  obtain ⟨n7, m8, m, at_, y1, y2, y3, y4, y5, hnn, hvm, hva⟩ := tk_nums n hn6
  have y1' : IntKind.i64.wrap ((n : Int) + 7) = (n7 : Int) := (i64_w _).trans y1
  have y3' : IntKind.i64.wrap (m8 : Int) = (m8 : Int) := (i64_w _).trans y3
  have y4' : IntKind.i64.wrap (7 + (m8 : Int)) = (at_ : Int) := (i64_w _).trans y4
  have y5' : IntKind.i64.wrap (8 * (m8 : Int)) = (m : Int) := (i64_w _).trans y5
  replace hnn := Aside0.mk hnn
  replace hvm := Aside0.mk hvm
  replace hva := Aside0.mk hva
  replace hn6 := Aside0.mk hn6
  by_cases c6 : b.length < at_
  case pos =>
    -- [[
    obtain ⟨d6, d6'⟩ := tk_lt' c6
    go_wp2
    refine bodyPost_ret (results_cell_row rfl _ _ w.heap.size 48 #[.int .i64 0, .int .i64 0, .int .i64 0, .int .i64 0, .slice none 0 0, .slice none 0 0, .int .i64 (b.length : Int), .int .i64 4] (0, 0) _ rfl (by refine blk_put (cs := #[.int .i64 0, .int .i64 0, .int .i64 0, .int .i64 0, .slice none 0 0, .slice none 0 0, .int .i64 (b.length : Int), .int .i64 0]) ?_ 7 _ rfl; refine blk_put (cs := #[.int .i64 0, .int .i64 0, .int .i64 0, .int .i64 0, .slice none 0 0, .slice none 0 0, .int .i64 0, .int .i64 0]) ?_ 6 _ rfl; refine blk_put (cs := #[.int .i64 0, .int .i64 0, .int .i64 0, .int .i64 0, .slice none 0 0, .slice none 0 0, .int .i64 0, .int .i64 0]) ?_ 5 _ rfl; refine blk_put (cs := #[.int .i64 0, .int .i64 0, .int .i64 0, .int .i64 0, .slice none 0 0, .slice none 0 0, .int .i64 0, .int .i64 0]) ?_ 4 _ rfl; refine blk_put (cs := #[.int .i64 0, .int .i64 0, .int .i64 0, .int .i64 0, .slice none 0 0, .slice none 0 0, .int .i64 0, .int .i64 0]) ?_ 3 _ rfl; refine blk_put (cs := #[.int .i64 0, .int .i64 0, .int .i64 0, .int .i64 0, .slice none 0 0, .slice none 0 0, .int .i64 0, .int .i64 0]) ?_ 2 _ rfl; refine blk_put (cs := #[.int .i64 0, .int .i64 0, .int .i64 0, .int .i64 0, .slice none 0 0, .slice none 0 0, .int .i64 0, .int .i64 0]) ?_ 1 _ rfl; refine blk_put (cs := #[.int .i64 0, .int .i64 0, .int .i64 0, .int .i64 0, .slice none 0 0, .slice none 0 0, .int .i64 0, .int .i64 0]) ?_ 0 _ rfl; exact hR4.out) Try.underlying48 rfl (by kernel_rfl)) rfl ?_
    have hv : refT b = noT (b.length : Int) 4 := by
      unfold refT
      rw [if_neg c0]
      rw [if_neg (by rw [← hx0.out]; exact fun h => h c1.out)]
      rw [if_neg c2]
      rw [← hx1.out, ← hx2.out, ← hx3.out, ← hx4.out]
      dsimp only
      rw [if_neg (by rw [hcb.out]; decide)]
      rw [if_neg c4]
      rw [← hx5.out, ← hx6.out, ← hn.out]
      rw [if_neg c5]
      rw [hvm.out, hva.out]
      rw [if_pos c6]
    rw [hv]
    exact ref_no w _ _ _ (by repeat (first | (with_reducible exact hb4.out) | (with_reducible refine below_drew1 ?_) | (refine below_set ?_ (Nat.le_refl _))))
    -- ]]
  obtain ⟨d6, d6'⟩ := tk_lt c6
  obtain ⟨cr, hcr⟩ : ∃ cr, chR b n m 4010 0 [] = cr := ⟨_, rfl⟩
  replace hcr := Aside0.mk hcr
  replace c6 := Aside0.mk (Nat.le_of_not_lt c6)
  have hT : Aside0 (refT b = contR b (x1, x2, x3, x4) at_ cr) := by
    refine ⟨?_⟩
    unfold refT
    rw [if_neg c0]
    rw [if_neg (by rw [← hx0.out]; exact fun h => h c1.out)]
    rw [if_neg c2]
    rw [← hx1.out, ← hx2.out, ← hx3.out, ← hx4.out]
    dsimp only
    rw [if_neg (by rw [hcb.out]; decide)]
    rw [if_neg c4]
    rw [← hx5.out, ← hx6.out, ← hn.out]
    rw [if_neg c5]
    rw [hvm.out, hva.out]
    rw [if_neg (Nat.not_lt.2 c6.out), hcr.out]
  replace c0 := Aside0.mk c0
  replace c2 := Aside0.mk c2
  replace c4 := Aside0.mk c4
  replace c5 := Aside0.mk c5
  go_upto_block 0 with (fail)
  clear d5 d5' d6 d6'
  clear z0_w4 z1_w4 z2_w4 z3_w4 z4_w4 z5_w4 z6_w4 z7_w4 zf_w4
  skip
  have hbit := Aside0.mk (fun (i : Nat) (hi : i < m) (W : World) => gunnyref01_Bit.calls 20 (rd b ((7 + i / 8 : Nat) : Int)) ((i % 8 : Nat) : Int) (bitR b i) W (bit_ref (rd_byte hB.out (7 + i / 8) (tk_in hi hnn.out c6.out)) (Nat.mod_lt _ (by decide))))
  go_wp2
  go_loopg [6] 4010 (fun kq v6 w' => ∃ (i : Nat) (acc : List Bool) (v4 : Value), v6 = .int .i64 (i : Int) ∧ Aside0 (chR b n m kq i acc = cr) ∧ Aside0 (i + kq = 4010 ∧ i ≤ m ∧ acc.length ≤ i) ∧ Aside0 (w'.heap[gs]? = some (.cells #[.int .i64 x1, .int .i64 x2, .int .i64 x3, .int .i64 x4, v4, .slice none 0 0] 27 (0, 0))) ∧ Aside0 (w'.heap[w.heap.size]? = some (O48 0 0)) ∧ Aside0 (Kd.R Kd.bool 4 w' w.heap.size (fun k => True) v4 acc) ∧ Aside0 (Below w.heap.size w w'))
  case atStart => exact ⟨0, [], _, rfl, hcr, ⟨by simp⟩, hS4, hR4, ⟨Kd.R_nil _ _ _ _ _⟩, hb4⟩
  case round =>
    obtain ⟨i, acc, v4, rfl, HCr, HI, HS, HR, HV, HB⟩ := hrel
    clear hS4 hR4 hb4 hcr
    cases gk with
    | zero => exact absurd HI.out (by have h1 := hnn.out; have h2 := c5.out; exact tk_zero h1 h2)
    | succ q =>
      have HCo := HCr.out
      simp only [chR] at HCo
      by_cases ci : i < m
      case neg =>
        rw [if_neg ci] at HCo
        obtain ⟨di, di'⟩ := tk_lt ci
        subst HCo
        replace ci := Aside0.mk ci
        go_upto_block 2 with (fail)
        obtain ⟨A4, c4', e4⟩ := Kd.R_slice HV.out
        subst e4
        replace hT : Aside0 (refT b = opsR b (x1, x2, x3, x4) acc 9010 [] at_) := hT
        go_wp2
        go_loopg [5] 9010 (fun kq v5 w' => ∃ (a : Nat) (os : List S39) (vo : Value), v5 = .int .i64 (a : Int) ∧ Aside0 (refT b = opsR b (x1, x2, x3, x4) acc kq os a) ∧ Aside0 (b.length < a + kq ∧ a ≤ b.length ∧ os.length ≤ 400) ∧ Aside0 (w'.heap[gs]? = some (.cells #[.int .i64 x1, .int .i64 x2, .int .i64 x3, .int .i64 x4, .slice A4 acc.length c4', vo] 27 (0, 0))) ∧ Aside0 (w'.heap[w.heap.size]? = some (O48 0 0)) ∧ Aside0 (Kd.R Kd.bool 4 w' w.heap.size (fun k => True) (.slice A4 acc.length c4') acc) ∧ Aside0 (Kd.N k39 39 w' w.heap.size (fun k => k ≠ gs ∧ k ≠ w.heap.size) vo os) ∧ Aside0 (Below w.heap.size w w'))
        case atStart => exact ⟨at_, [], _, rfl, hT, ⟨by have := c6.out; have := hl.out; exact ⟨by omega, c6.out, by simp⟩⟩, HS, HR, HV, ⟨Kd.N_nil _ _ _ _ _⟩, HB⟩
        case round =>
          rename_i wr0
          obtain ⟨a, os, vo, rfl, HT, HA, HS2, HR2, HV2, HN2, HB2⟩ := hrel
          clear hT
          cases gk with
          | zero => exact absurd HA.out (by omega)
          | succ q2 =>
            have HTo := HT.out
            simp only [opsR] at HTo
            obtain ⟨Ao, co, eo⟩ := Kd.N_slice HN2.out
            subst eo
            have hs5 : wr.cell? ⟨gs, 5, none⟩ = some (.slice Ao os.length co) := (blk_cell HS2.out 5).trans rfl
            have hsf5 := fun i => blk_frozen HS2.out i
            by_cases ca : a < b.length
            case neg =>
              -- [[
              rw [if_neg ca] at HTo
              obtain ⟨da, da'⟩ := tk_lt ca
              have s0 : wr.cell? ⟨gs, 0, none⟩ = some (.int .i64 x1) := (blk_cell HS2.out 0).trans rfl
              have s1 : wr.cell? ⟨gs, 1, none⟩ = some (.int .i64 x2) := (blk_cell HS2.out 1).trans rfl
              have s2 : wr.cell? ⟨gs, 2, none⟩ = some (.int .i64 x3) := (blk_cell HS2.out 2).trans rfl
              have s3 : wr.cell? ⟨gs, 3, none⟩ = some (.int .i64 x4) := (blk_cell HS2.out 3).trans rfl
              have s4 : wr.cell? ⟨gs, 4, none⟩ = some (.slice A4 acc.length c4') := (blk_cell HS2.out 4).trans rfl
              have z0_wr : wr.cell? ⟨w.heap.size, 0, none⟩ = some (.int .i64 0) := (blk_cell HR2.out 0).trans rfl
              have z1_wr : wr.cell? ⟨w.heap.size, 1, none⟩ = some (.int .i64 0) := (blk_cell HR2.out 1).trans rfl
              have z2_wr : wr.cell? ⟨w.heap.size, 2, none⟩ = some (.int .i64 0) := (blk_cell HR2.out 2).trans rfl
              have z3_wr : wr.cell? ⟨w.heap.size, 3, none⟩ = some (.int .i64 0) := (blk_cell HR2.out 3).trans rfl
              have z4_wr : wr.cell? ⟨w.heap.size, 4, none⟩ = some (.slice none 0 0) := (blk_cell HR2.out 4).trans rfl
              have z5_wr : wr.cell? ⟨w.heap.size, 5, none⟩ = some (.slice none 0 0) := (blk_cell HR2.out 5).trans rfl
              have z6_wr : wr.cell? ⟨w.heap.size, 6, none⟩ = some (.int .i64 0) := (blk_cell HR2.out 6).trans rfl
              have z7_wr : wr.cell? ⟨w.heap.size, 7, none⟩ = some (.int .i64 0) := (blk_cell HR2.out 7).trans rfl
              have zf_wr := fun i => blk_frozen HR2.out i
              go_upto_region 36 with (fail)
              go_wp2
              refine bodyPost_ret (results_cell_row rfl _ _ w.heap.size 48 #[.int .i64 x1, .int .i64 x2, .int .i64 x3, .int .i64 x4, .slice A4 acc.length c4', .slice Ao os.length co, .int .i64 (a : Int), .int .i64 0] (0, 0) _ rfl (by refine blk_put (cs := #[.int .i64 x1, .int .i64 x2, .int .i64 x3, .int .i64 x4, .slice A4 acc.length c4', .slice Ao os.length co, .int .i64 (a : Int), .int .i64 0]) ?_ 7 _ rfl; refine blk_put (cs := #[.int .i64 x1, .int .i64 x2, .int .i64 x3, .int .i64 x4, .slice A4 acc.length c4', .slice Ao os.length co, .int .i64 0, .int .i64 0]) ?_ 6 _ rfl; refine blk_put (cs := #[.int .i64 x1, .int .i64 x2, .int .i64 x3, .int .i64 x4, .slice A4 acc.length c4', .slice none 0 0, .int .i64 0, .int .i64 0]) ?_ 5 _ rfl; refine blk_put (cs := #[.int .i64 x1, .int .i64 x2, .int .i64 x3, .int .i64 x4, .slice none 0 0, .slice none 0 0, .int .i64 0, .int .i64 0]) ?_ 4 _ rfl; refine blk_put (cs := #[.int .i64 x1, .int .i64 x2, .int .i64 x3, .int .i64 0, .slice none 0 0, .slice none 0 0, .int .i64 0, .int .i64 0]) ?_ 3 _ rfl; refine blk_put (cs := #[.int .i64 x1, .int .i64 x2, .int .i64 0, .int .i64 0, .slice none 0 0, .slice none 0 0, .int .i64 0, .int .i64 0]) ?_ 2 _ rfl; refine blk_put (cs := #[.int .i64 x1, .int .i64 0, .int .i64 0, .int .i64 0, .slice none 0 0, .slice none 0 0, .int .i64 0, .int .i64 0]) ?_ 1 _ rfl; refine blk_put (cs := #[.int .i64 0, .int .i64 0, .int .i64 0, .int .i64 0, .slice none 0 0, .slice none 0 0, .int .i64 0, .int .i64 0]) ?_ 0 _ rfl; exact HR2.out) Try.underlying48 rfl (by kernel_rfl)) rfl ?_
              rw [HTo]
              have HV3 := Kd.R_types HV2.out HR2.out (by decide)
              have HN3 := HN2.out
              have HV4 := Kd.R_far (p := ⟨w.heap.size, 7, none⟩) (Kd.R_far (p := ⟨w.heap.size, 6, none⟩) (Kd.R_far (p := ⟨w.heap.size, 5, none⟩) (Kd.R_far (p := ⟨w.heap.size, 4, none⟩) (Kd.R_far (p := ⟨w.heap.size, 3, none⟩) (Kd.R_far (p := ⟨w.heap.size, 2, none⟩) (Kd.R_far (p := ⟨w.heap.size, 1, none⟩) (Kd.R_far (p := ⟨w.heap.size, 0, none⟩) (HV3) (fun k hk => hk.2) (.int .i64 x1)) (fun k hk => hk.2) (.int .i64 x2)) (fun k hk => hk.2) (.int .i64 x3)) (fun k hk => hk.2) (.int .i64 x4)) (fun k hk => hk.2) (.slice A4 acc.length c4')) (fun k hk => hk.2) (.slice Ao os.length co)) (fun k hk => hk.2) (.int .i64 (a : Int))) (fun k hk => hk.2) (.int .i64 0)
              have HN4 := Kd.N_far (p := ⟨w.heap.size, 7, none⟩) (Kd.N_far (p := ⟨w.heap.size, 6, none⟩) (Kd.N_far (p := ⟨w.heap.size, 5, none⟩) (Kd.N_far (p := ⟨w.heap.size, 4, none⟩) (Kd.N_far (p := ⟨w.heap.size, 3, none⟩) (Kd.N_far (p := ⟨w.heap.size, 2, none⟩) (Kd.N_far (p := ⟨w.heap.size, 1, none⟩) (Kd.N_far (p := ⟨w.heap.size, 0, none⟩) (HN3) (fun k hk => hk.2) (.int .i64 x1)) (fun k hk => hk.2) (.int .i64 x2)) (fun k hk => hk.2) (.int .i64 x3)) (fun k hk => hk.2) (.int .i64 x4)) (fun k hk => hk.2) (.slice A4 acc.length c4')) (fun k hk => hk.2) (.slice Ao os.length co)) (fun k hk => hk.2) (.int .i64 (a : Int))) (fun k hk => hk.2) (.int .i64 0)
              have HB4 := below_set (j := 7) (v := .int .i64 0) (below_set (j := 6) (v := .int .i64 (a : Int)) (below_set (j := 5) (v := .slice Ao os.length co) (below_set (j := 4) (v := .slice A4 acc.length c4') (below_set (j := 3) (v := .int .i64 x4) (below_set (j := 2) (v := .int .i64 x3) (below_set (j := 1) (v := .int .i64 x2) (below_set (j := 0) (v := .int .i64 x1) (HB2.out) (Nat.le_refl _)) (Nat.le_refl _)) (Nat.le_refl _)) (Nat.le_refl _)) (Nat.le_refl _)) (Nat.le_refl _)) (Nat.le_refl _)) (Nat.le_refl _)
              exact ⟨_, _, rfl, Kd.R_mono HV4 (fun _ _ => trivial), Kd.N_mono HN4 (fun _ _ => trivial), HB4⟩
              -- ]]
            case pos =>
              rw [if_pos ca] at HTo
              obtain ⟨da, da'⟩ := tk_lt' ca
              by_cases cf : os.length = 400
              case pos =>
                -- [[
                rw [if_pos cf] at HTo
                have df : ((os.length : Int) == 400) = true := by rw [cf]; rfl
                replace cf := Aside0.mk cf
                have z0_wr : wr.cell? ⟨w.heap.size, 0, none⟩ = some (.int .i64 0) := (blk_cell HR2.out 0).trans rfl
                have z1_wr : wr.cell? ⟨w.heap.size, 1, none⟩ = some (.int .i64 0) := (blk_cell HR2.out 1).trans rfl
                have z2_wr : wr.cell? ⟨w.heap.size, 2, none⟩ = some (.int .i64 0) := (blk_cell HR2.out 2).trans rfl
                have z3_wr : wr.cell? ⟨w.heap.size, 3, none⟩ = some (.int .i64 0) := (blk_cell HR2.out 3).trans rfl
                have z4_wr : wr.cell? ⟨w.heap.size, 4, none⟩ = some (.slice none 0 0) := (blk_cell HR2.out 4).trans rfl
                have z5_wr : wr.cell? ⟨w.heap.size, 5, none⟩ = some (.slice none 0 0) := (blk_cell HR2.out 5).trans rfl
                have z6_wr : wr.cell? ⟨w.heap.size, 6, none⟩ = some (.int .i64 0) := (blk_cell HR2.out 6).trans rfl
                have z7_wr : wr.cell? ⟨w.heap.size, 7, none⟩ = some (.int .i64 0) := (blk_cell HR2.out 7).trans rfl
                have zf_wr := fun i => blk_frozen HR2.out i
                go_upto_region 28 with (fail)
                go_wp2
                refine bodyPost_ret (results_cell_row rfl _ _ w.heap.size 48 #[.int .i64 0, .int .i64 0, .int .i64 0, .int .i64 0, .slice none 0 0, .slice none 0 0, .int .i64 (a : Int), .int .i64 5] (0, 0) _ rfl (by refine blk_put (cs := #[.int .i64 0, .int .i64 0, .int .i64 0, .int .i64 0, .slice none 0 0, .slice none 0 0, .int .i64 (a : Int), .int .i64 0]) ?_ 7 _ rfl; refine blk_put (cs := #[.int .i64 0, .int .i64 0, .int .i64 0, .int .i64 0, .slice none 0 0, .slice none 0 0, .int .i64 0, .int .i64 0]) ?_ 6 _ rfl; refine blk_put (cs := #[.int .i64 0, .int .i64 0, .int .i64 0, .int .i64 0, .slice none 0 0, .slice none 0 0, .int .i64 0, .int .i64 0]) ?_ 5 _ rfl; refine blk_put (cs := #[.int .i64 0, .int .i64 0, .int .i64 0, .int .i64 0, .slice none 0 0, .slice none 0 0, .int .i64 0, .int .i64 0]) ?_ 4 _ rfl; refine blk_put (cs := #[.int .i64 0, .int .i64 0, .int .i64 0, .int .i64 0, .slice none 0 0, .slice none 0 0, .int .i64 0, .int .i64 0]) ?_ 3 _ rfl; refine blk_put (cs := #[.int .i64 0, .int .i64 0, .int .i64 0, .int .i64 0, .slice none 0 0, .slice none 0 0, .int .i64 0, .int .i64 0]) ?_ 2 _ rfl; refine blk_put (cs := #[.int .i64 0, .int .i64 0, .int .i64 0, .int .i64 0, .slice none 0 0, .slice none 0 0, .int .i64 0, .int .i64 0]) ?_ 1 _ rfl; refine blk_put (cs := #[.int .i64 0, .int .i64 0, .int .i64 0, .int .i64 0, .slice none 0 0, .slice none 0 0, .int .i64 0, .int .i64 0]) ?_ 0 _ rfl; exact HR2.out) Try.underlying48 rfl (by kernel_rfl)) rfl ?_
                have hv : refT b = noT (a : Int) 5 := by
                  exact HTo
                rw [hv]
                exact ref_no w _ _ _ (by repeat (first | (with_reducible exact HB2.out) | (with_reducible refine below_drew1 ?_) | (refine below_set ?_ (Nat.le_refl _))))
                -- ]]
              have df : ((os.length : Int) == 400) = false := beq_eq_false_iff_ne.mpr (fun h => cf (Int.ofNat_inj.1 h))
              rw [if_neg cf] at HTo
              replace cf := Aside0.mk cf
              obtain ⟨xa, hxa⟩ : ∃ xa, xa = rd b (a : Int) := ⟨_, rfl⟩
              have rxa := hrd.out wr HB2.out a ca
              have txa := rd_byte hB.out a ca
              rw [← hxa] at rxa txa HTo
              replace hxa := Aside0.mk hxa
              replace txa := Aside0.mk txa
              by_cases ct : xa > 10
              case pos =>
                -- [[
                rw [if_pos ct] at HTo
                have dt : decide (10 < xa) = true := decide_eq_true ct
                have z0_wr : wr.cell? ⟨w.heap.size, 0, none⟩ = some (.int .i64 0) := (blk_cell HR2.out 0).trans rfl
                have z1_wr : wr.cell? ⟨w.heap.size, 1, none⟩ = some (.int .i64 0) := (blk_cell HR2.out 1).trans rfl
                have z2_wr : wr.cell? ⟨w.heap.size, 2, none⟩ = some (.int .i64 0) := (blk_cell HR2.out 2).trans rfl
                have z3_wr : wr.cell? ⟨w.heap.size, 3, none⟩ = some (.int .i64 0) := (blk_cell HR2.out 3).trans rfl
                have z4_wr : wr.cell? ⟨w.heap.size, 4, none⟩ = some (.slice none 0 0) := (blk_cell HR2.out 4).trans rfl
                have z5_wr : wr.cell? ⟨w.heap.size, 5, none⟩ = some (.slice none 0 0) := (blk_cell HR2.out 5).trans rfl
                have z6_wr : wr.cell? ⟨w.heap.size, 6, none⟩ = some (.int .i64 0) := (blk_cell HR2.out 6).trans rfl
                have z7_wr : wr.cell? ⟨w.heap.size, 7, none⟩ = some (.int .i64 0) := (blk_cell HR2.out 7).trans rfl
                have zf_wr := fun i => blk_frozen HR2.out i
                go_upto_region 30 with (fail)
                go_wp2
                refine bodyPost_ret (results_cell_row rfl _ _ w.heap.size 48 #[.int .i64 0, .int .i64 0, .int .i64 0, .int .i64 0, .slice none 0 0, .slice none 0 0, .int .i64 (a : Int), .int .i64 3] (0, 0) _ rfl (by refine blk_put (cs := #[.int .i64 0, .int .i64 0, .int .i64 0, .int .i64 0, .slice none 0 0, .slice none 0 0, .int .i64 (a : Int), .int .i64 0]) ?_ 7 _ rfl; refine blk_put (cs := #[.int .i64 0, .int .i64 0, .int .i64 0, .int .i64 0, .slice none 0 0, .slice none 0 0, .int .i64 0, .int .i64 0]) ?_ 6 _ rfl; refine blk_put (cs := #[.int .i64 0, .int .i64 0, .int .i64 0, .int .i64 0, .slice none 0 0, .slice none 0 0, .int .i64 0, .int .i64 0]) ?_ 5 _ rfl; refine blk_put (cs := #[.int .i64 0, .int .i64 0, .int .i64 0, .int .i64 0, .slice none 0 0, .slice none 0 0, .int .i64 0, .int .i64 0]) ?_ 4 _ rfl; refine blk_put (cs := #[.int .i64 0, .int .i64 0, .int .i64 0, .int .i64 0, .slice none 0 0, .slice none 0 0, .int .i64 0, .int .i64 0]) ?_ 3 _ rfl; refine blk_put (cs := #[.int .i64 0, .int .i64 0, .int .i64 0, .int .i64 0, .slice none 0 0, .slice none 0 0, .int .i64 0, .int .i64 0]) ?_ 2 _ rfl; refine blk_put (cs := #[.int .i64 0, .int .i64 0, .int .i64 0, .int .i64 0, .slice none 0 0, .slice none 0 0, .int .i64 0, .int .i64 0]) ?_ 1 _ rfl; refine blk_put (cs := #[.int .i64 0, .int .i64 0, .int .i64 0, .int .i64 0, .slice none 0 0, .slice none 0 0, .int .i64 0, .int .i64 0]) ?_ 0 _ rfl; exact HR2.out) Try.underlying48 rfl (by kernel_rfl)) rfl ?_
                have hv : refT b = noT (a : Int) 3 := by
                  exact HTo
                rw [hv]
                exact ref_no w _ _ _ (by repeat (first | (with_reducible exact HB2.out) | (with_reducible refine below_drew1 ?_) | (refine below_set ?_ (Nat.le_refl _))))
                -- ]]
              rw [if_neg ct] at HTo
              have dt : decide (10 < xa) = false := decide_eq_false ct
              have hOp := Aside0.mk (op_calls A' c b wr (Kd.C_below hC.out HB2.out) hc.out hl.out hB.out a ca)
              rw [← hxa.out] at hOp
              obtain ⟨res, hres⟩ : ∃ res, opR (hasK xa) b a = res := ⟨_, rfl⟩
              have hle := Aside0.mk (opR_le hres ca)
              rw [hres] at hOp HTo
              replace hres := Aside0.mk hres
              replace HTo := Aside0.mk HTo
              go_upto_region 32 with (go_at_call 39; refine hOp.out.mono ?_; rintro e w6 ⟨⟨o, nn, Ad, cd, rfl, hCd, hcd, hrs⟩, hb6⟩; have HS6 := Aside0.mk (blk_below HS2.out hb6); have HR6 := Aside0.mk (blk_below HR2.out hb6); have HV6 := Aside0.mk (Kd.R_below HV2.out hb6); have HN6 := Aside0.mk (Kd.N_below HN2.out hb6); have HB6 := Aside0.mk (below_step HB2.out hb6); replace hCd := Aside0.mk hCd; replace hcd := Aside0.mk hcd; replace hrs := Aside0.mk hrs; clear hb6)
              skip
              have HS7 := Aside0.mk (blk_alloc HS6.out (O39 o.f0 o.f1 o.f2 o.f3 (.slice Ad o.f4.length cd)))
              have HR7 := Aside0.mk (blk_alloc HR6.out (O39 o.f0 o.f1 o.f2 o.f3 (.slice Ad o.f4.length cd)))
              have HV7 := Aside0.mk (Kd.R_alloc HV6.out (O39 o.f0 o.f1 o.f2 o.f3 (.slice Ad o.f4.length cd)))
              have HN7 := Aside0.mk (Kd.N_alloc HN6.out (O39 o.f0 o.f1 o.f2 o.f3 (.slice Ad o.f4.length cd)))
              have HB7 := Aside0.mk (below_alloc HB6.out (O39 o.f0 o.f1 o.f2 o.f3 (.slice Ad o.f4.length cd)))
              have HO7 := Aside0.mk (blk_new w6 (O39 o.f0 o.f1 o.f2 o.f3 (.slice Ad o.f4.length cd)))
              have hgs7 := Aside0.mk (blk_lt HS7.out)
              obtain ⟨gv, hgv⟩ : ∃ gv, gv = w6.heap.size := ⟨_, rfl⟩
              rw [← hgv] at HO7 ⊢
              replace hgv := Aside0.mk hgv
              clear HS6 HR6 HV6 HN6 HB6 HS2 HR2 HV2 HN2 HB2 hs5 hsf5 rxa
              generalize w6.alloc (O39 o.f0 o.f1 o.f2 o.f3 (.slice Ad o.f4.length cd)) = w7 at HS7 HR7 HV7 HN7 HB7 HO7 hgs7 ⊢
              cases res with
              | none =>
                -- [[
                have z0_w7 : w7.cell? ⟨w.heap.size, 0, none⟩ = some (.int .i64 0) := (blk_cell HR7.out 0).trans rfl
                have z1_w7 : w7.cell? ⟨w.heap.size, 1, none⟩ = some (.int .i64 0) := (blk_cell HR7.out 1).trans rfl
                have z2_w7 : w7.cell? ⟨w.heap.size, 2, none⟩ = some (.int .i64 0) := (blk_cell HR7.out 2).trans rfl
                have z3_w7 : w7.cell? ⟨w.heap.size, 3, none⟩ = some (.int .i64 0) := (blk_cell HR7.out 3).trans rfl
                have z4_w7 : w7.cell? ⟨w.heap.size, 4, none⟩ = some (.slice none 0 0) := (blk_cell HR7.out 4).trans rfl
                have z5_w7 : w7.cell? ⟨w.heap.size, 5, none⟩ = some (.slice none 0 0) := (blk_cell HR7.out 5).trans rfl
                have z6_w7 : w7.cell? ⟨w.heap.size, 6, none⟩ = some (.int .i64 0) := (blk_cell HR7.out 6).trans rfl
                have z7_w7 : w7.cell? ⟨w.heap.size, 7, none⟩ = some (.int .i64 0) := (blk_cell HR7.out 7).trans rfl
                have zf_w7 := fun i => blk_frozen HR7.out i
                go_upto_region 33 with (fail)
                go_wp2
                refine bodyPost_ret (results_cell_row rfl _ _ w.heap.size 48 #[.int .i64 0, .int .i64 0, .int .i64 0, .int .i64 0, .slice none 0 0, .slice none 0 0, .int .i64 (b.length : Int), .int .i64 4] (0, 0) _ rfl (by refine blk_put (cs := #[.int .i64 0, .int .i64 0, .int .i64 0, .int .i64 0, .slice none 0 0, .slice none 0 0, .int .i64 (b.length : Int), .int .i64 0]) ?_ 7 _ rfl; refine blk_put (cs := #[.int .i64 0, .int .i64 0, .int .i64 0, .int .i64 0, .slice none 0 0, .slice none 0 0, .int .i64 0, .int .i64 0]) ?_ 6 _ rfl; refine blk_put (cs := #[.int .i64 0, .int .i64 0, .int .i64 0, .int .i64 0, .slice none 0 0, .slice none 0 0, .int .i64 0, .int .i64 0]) ?_ 5 _ rfl; refine blk_put (cs := #[.int .i64 0, .int .i64 0, .int .i64 0, .int .i64 0, .slice none 0 0, .slice none 0 0, .int .i64 0, .int .i64 0]) ?_ 4 _ rfl; refine blk_put (cs := #[.int .i64 0, .int .i64 0, .int .i64 0, .int .i64 0, .slice none 0 0, .slice none 0 0, .int .i64 0, .int .i64 0]) ?_ 3 _ rfl; refine blk_put (cs := #[.int .i64 0, .int .i64 0, .int .i64 0, .int .i64 0, .slice none 0 0, .slice none 0 0, .int .i64 0, .int .i64 0]) ?_ 2 _ rfl; refine blk_put (cs := #[.int .i64 0, .int .i64 0, .int .i64 0, .int .i64 0, .slice none 0 0, .slice none 0 0, .int .i64 0, .int .i64 0]) ?_ 1 _ rfl; refine blk_put (cs := #[.int .i64 0, .int .i64 0, .int .i64 0, .int .i64 0, .slice none 0 0, .slice none 0 0, .int .i64 0, .int .i64 0]) ?_ 0 _ rfl; exact HR7.out) Try.underlying48 rfl (by kernel_rfl)) rfl ?_
                have hv : refT b = noT (b.length : Int) 4 := by
                  exact HTo.out
                rw [hv]
                exact ref_no w _ _ _ (by repeat (first | (with_reducible exact HB7.out) | (with_reducible refine below_drew1 ?_) | (refine below_set ?_ (Nat.le_refl _))))
                -- ]]
              | some r =>
                obtain ⟨e1, e2⟩ := hrs.out r rfl
                subst e1 e2
                have o0 : w7.cell? ⟨gv, 0, none⟩ = some (.int .i64 r.1.f0) := (blk_cell HO7.out 0).trans rfl
                have o1 : w7.cell? ⟨gv, 1, none⟩ = some (.int .i64 r.1.f1) := (blk_cell HO7.out 1).trans rfl
                have o2 : w7.cell? ⟨gv, 2, none⟩ = some (.int .i64 r.1.f2) := (blk_cell HO7.out 2).trans rfl
                have o3 : w7.cell? ⟨gv, 3, none⟩ = some (.int .u64 r.1.f3) := (blk_cell HO7.out 3).trans rfl
                have o4 : w7.cell? ⟨gv, 4, none⟩ = some (.slice Ad r.1.f4.length cd) := (blk_cell HO7.out 4).trans rfl
                have hs5 : w7.cell? ⟨gs, 5, none⟩ = some (.slice Ao os.length co) := (blk_cell HS7.out 5).trans rfl
                have hsf5 := fun i => blk_frozen HS7.out i
                have hbd := Aside0.mk (tk_os HA.out)
                go_upto_region 35 with (first | ((with_reducible refine gate_builtin (b := .append) (xs := #[.tmp 140, .tmp 142]) rfl ?_); at_builtin; refine Kd.N_append k39 (w0 := w) w.heap.size rfl (.tmp 140) (.tmp 142) 25 39 (.agg #[.int .i64 0, .int .i64 0, .int .i64 0, .int .u64 0, .slice none 0 0]) 56 rfl Try.underlying25 info39 rfl (by decide) (by decide) (.slice Ao os.length co) os r.1 [.int .i64 r.1.f0, .int .i64 r.1.f1, .int .i64 r.1.f2, .int .u64 r.1.f3, .slice Ad r.1.f4.length cd] (fun k => k ≠ gs ∧ k ≠ w.heap.size) (fun k => k < w.heap.size) rfl rfl (fk_op hC.out HB7.out hCd.out hcd.out) (fun k hk => ⟨⟨Nat.ne_of_lt (Nat.lt_trans hk hgn.out), Nat.ne_of_lt hk⟩, fun e => absurd (Kd.N_base HN7.out k e.symm) (Nat.not_le.2 hk)⟩) (fun k hk => ⟨Nat.ne_of_gt (Nat.lt_of_lt_of_le hgs7.out hk), Nat.ne_of_gt (Nat.lt_trans hgn.out (Nat.lt_of_lt_of_le hgs7.out hk))⟩) HN7.out HB7.out (below_size HB7.out) hbd.out ?_; intro v1 w8 ho hb hg hat; obtain ⟨A8, c8, e7⟩ := Kd.N_slice ho; have e8 : v1 = .slice A8 (os.length + 1) c8 := (by rw [e7]; simp); clear e7; subst e8; have HS8 := Aside0.mk (blk_grown HS7.out hg (Kd.N_ne HN7.out HS7.out (by decide))); have HR8 := Aside0.mk (blk_grown HR7.out hg (Kd.N_ne HN7.out HR7.out (by decide))); have HV8 := Aside0.mk (Kd.R_mono (Kd.R_grown (R_apartN HV7.out HN7.out (by decide)) hg (fun k hk => hk.2)) (fun _ _ => trivial : ∀ k, _ → True)); have hs8 : w8.cell? ⟨gs, 5, none⟩ = some (.slice Ao os.length co) := (blk_cell HS8.out 5).trans rfl; have hsf8 := (fun i => blk_frozen HS8.out i); replace ho := Aside0.mk ho; replace hb := Aside0.mk hb; clear hat hg))
                have HS9 := Aside0.mk (blk_put (cs' := #[.int .i64 x1, .int .i64 x2, .int .i64 x3, .int .i64 x4, .slice A4 acc.length c4', .slice A8 (os.length + 1) c8]) HS8.out 5 (.slice A8 (os.length + 1) c8) rfl)
                have HR9 := Aside0.mk (blk_far HR8.out (p := ⟨gs, 5, none⟩) (Nat.ne_of_lt hgn.out) (.slice A8 (os.length + 1) c8))
                have HV9 := Aside0.mk (Kd.R_mono (Kd.R_far (p := ⟨gs, 5, none⟩) (Kd.R_types HV8.out HS8.out (by decide)) (fun k hk => hk.2) (.slice A8 (os.length + 1) c8)) (fun _ _ => trivial : ∀ k, _ → True))
                have HN9 := Aside0.mk (Kd.N_far (p := ⟨gs, 5, none⟩) ho.out (fun k hk => hk.1) (.slice A8 (os.length + 1) c8))
                have HB9 := Aside0.mk (below_set hb.out (j := 5) (v := (.slice A8 (os.length + 1) c8)) (Nat.le_of_lt hgn.out))
                clear hs5 hsf5 hs8 hsf8 HS7 HR7 HV7 HN7 HB7 HS8 HR8 HV8 ho hb o0 o1 o2 o3 o4
                generalize w8.setCell ⟨gs, 5, none⟩ (.slice A8 (os.length + 1) c8) = w9 at HS9 HR9 HV9 HN9 HB9 ⊢
                go_wp2
                go_roundg q2
                case measure => omega
                case rel => exact ⟨r.2, os ++ [r.1], _, rfl, HTo, ⟨by rw [List.length_append]; exact tk_rd HA.out (hle.out r rfl) cf.out⟩, HS9, HR9, HV9, HN9, HB9⟩
      case pos =>
        rw [if_pos ci] at HCo
        obtain ⟨di, di'⟩ := tk_lt' ci
        have hbi := hbit.out i ci
        obtain ⟨q8, i8, j8, ⟨f1, f2, f3, f3', f4, f4', f5, f5'⟩, hi8, hj8, f6⟩ := tk_bit ci hnn.out c5.out c6.out
        rw [← hi8, ← hj8] at hbi
        obtain ⟨xb, hxb⟩ : ∃ xb, xb = rd b (i8 : Int) := ⟨_, rfl⟩
        have rxb := hrd.out wr HB.out i8 f6
        have txb := rd_byte hB.out i8 f6
        rw [← hxb] at rxb txb hbi
        obtain ⟨f7, f7'⟩ := tk_lt' f6
        have f8 : IntKind.u64.wrap xb = xb := by rw [u64w]; omega
        obtain ⟨bi, hbi0⟩ : ∃ bi, bi = bitR b i := ⟨_, rfl⟩
        rw [← hbi0] at hbi HCo
        replace hbi := Aside0.mk hbi
        replace hi8 := Aside0.mk hi8
        replace hj8 := Aside0.mk hj8
        replace txb := Aside0.mk txb
        replace hxb := Aside0.mk hxb
        replace hbi0 := Aside0.mk hbi0
        replace ci := Aside0.mk ci
        replace HCo := Aside0.mk HCo
        go_upto_region 22 with (go_at_call 38; refine (hbi.out _).mono ?_; rintro e w6 ⟨rfl, hdr⟩; have HS6 := Aside0.mk (blk_below HS.out hdr.below); have HR6 := Aside0.mk (blk_below HR.out hdr.below); have HV6 := Aside0.mk (Kd.R_below HV.out hdr.below); have HB6 := Aside0.mk (below_step HB.out hdr.below); clear hdr)
        obtain ⟨A4, c4', e4⟩ := Kd.R_slice HV6.out
        subst e4
        have hs4 : w6.cell? ⟨gs, 4, none⟩ = some (.slice A4 acc.length c4') := (blk_cell HS6.out 4).trans rfl
        have hsf := fun i => blk_frozen HS6.out i
        have hac := Aside0.mk (tk_acc HI.out hnn.out c5.out)
        have ws := Aside0.mk (w64s i hac.out.2)
        clear rxb HS HR HV HB
        by_cases cn : i < n
        case pos =>
          -- [[
          replace HCo := Aside0.mk (HCo.out.symm.trans (if_pos cn)).symm
          obtain ⟨dn, dn'⟩ := tk_lt' cn
          go_upto_region 20 with (first | ((with_reducible refine gate_builtin (b := .append) (xs := #[.tmp 101, .tmp 103]) rfl ?_); at_builtin; refine Kd.R_append Kd.bool (w0 := w) w.heap.size rfl (.tmp 101) (.tmp 103) 24 4 (.bool false) 1 rfl Try.underlying24 info4 rfl (by decide) (by decide) (.slice A4 acc.length c4') acc bi [.bool bi] (fun _ => True) (fun _ => False) rfl rfl rfl (fun _ hk => hk.elim) (fun _ _ => trivial) HV6.out HB6.out (below_size HB6.out) hac.out.1 ?_; intro v1 w7 ho hb hg hat; obtain ⟨A7, c7, e7⟩ := Kd.R_slice ho; have e8 : v1 = .slice A7 (acc.length + 1) c7 := (by rw [e7]; simp); clear e7; subst e8; have HS7 := Aside0.mk (blk_grown HS6.out hg (Kd.R_ne HV6.out HS6.out (by decide))); have HR7 := Aside0.mk (blk_grown HR6.out hg (Kd.R_ne HV6.out HR6.out (by decide))); have hs7 : w7.cell? ⟨gs, 4, none⟩ = some (.slice A4 acc.length c4') := (blk_cell HS7.out 4).trans rfl; have hsf7 := (fun i => blk_frozen HS7.out i); replace ho := Aside0.mk ho; replace hb := Aside0.mk hb; clear hat hg))
          have HS8 := Aside0.mk (blk_put (cs' := #[.int .i64 x1, .int .i64 x2, .int .i64 x3, .int .i64 x4, .slice A7 (acc.length + 1) c7, .slice none 0 0]) HS7.out 4 (.slice A7 (acc.length + 1) c7) rfl)
          have HR8 := Aside0.mk (blk_far HR7.out (p := ⟨gs, 4, none⟩) (Nat.ne_of_lt hgn.out) (.slice A7 (acc.length + 1) c7))
          have HV8 := Aside0.mk (Kd.R_mono (Kd.R_far (p := ⟨gs, 4, none⟩) (Kd.R_types ho.out HS7.out (by decide)) (fun k hk => hk.2) (.slice A7 (acc.length + 1) c7)) (fun _ _ => trivial : ∀ k, _ → True))
          have HB8 := Aside0.mk (below_set hb.out (j := 4) (v := (.slice A7 (acc.length + 1) c7)) (Nat.le_of_lt hgn.out))
          clear hs4 hsf hs7 hsf7 HS6 HR6 HV6 HB6 HS7 HR7 ho hb
          generalize w7.setCell ⟨gs, 4, none⟩ (.slice A7 (acc.length + 1) c7) = w8 at HS8 HR8 HV8 HB8 ⊢
          go_wp2
          go_roundg q
          case measure => omega
          case rel => exact ⟨i + 1, acc ++ [bi], _, by rw [ws.out], HCo, ⟨by rw [List.length_append]; exact tk_next HI.out ci.out⟩, HS8, HR8, HV8, HB8⟩
          -- ]]
        case neg =>
          replace HCo := Aside0.mk (HCo.out.symm.trans (if_neg cn)).symm
          obtain ⟨dn, dn'⟩ := tk_lt cn
          cases bi
          case false =>
            -- [[
            go_wp2
            go_roundg q
            case measure => omega
            case rel => exact ⟨i + 1, acc, _, by rw [ws.out], ⟨(HCo.out.symm.trans (if_neg (by decide))).symm⟩, ⟨tk_next' HI.out ci.out⟩, HS6, HR6, HV6, HB6⟩
            -- ]]
          case true =>
            -- [[
            have wb := tk_back hnn.out c5.out
            obtain ⟨zb, hzb⟩ : ∃ zb : Int, zb = (at_ : Int) - 1 := ⟨_, rfl⟩
            replace wb : wrap64 ((at_ : Int) - 1) = zb := by rw [hzb]; exact wb
            have wb' : IntKind.i64.wrap ((at_ : Int) - 1) = zb := (i64_w _).trans wb
            replace hzb := Aside0.mk hzb
            have z0_w6 : w6.cell? ⟨w.heap.size, 0, none⟩ = some (.int .i64 0) := (blk_cell HR6.out 0).trans rfl
            have z1_w6 : w6.cell? ⟨w.heap.size, 1, none⟩ = some (.int .i64 0) := (blk_cell HR6.out 1).trans rfl
            have z2_w6 : w6.cell? ⟨w.heap.size, 2, none⟩ = some (.int .i64 0) := (blk_cell HR6.out 2).trans rfl
            have z3_w6 : w6.cell? ⟨w.heap.size, 3, none⟩ = some (.int .i64 0) := (blk_cell HR6.out 3).trans rfl
            have z4_w6 : w6.cell? ⟨w.heap.size, 4, none⟩ = some (.slice none 0 0) := (blk_cell HR6.out 4).trans rfl
            have z5_w6 : w6.cell? ⟨w.heap.size, 5, none⟩ = some (.slice none 0 0) := (blk_cell HR6.out 5).trans rfl
            have z6_w6 : w6.cell? ⟨w.heap.size, 6, none⟩ = some (.int .i64 0) := (blk_cell HR6.out 6).trans rfl
            have z7_w6 : w6.cell? ⟨w.heap.size, 7, none⟩ = some (.int .i64 0) := (blk_cell HR6.out 7).trans rfl
            have zf_w6 := fun i => blk_frozen HR6.out i
            go_upto_region 25 with (fail)
            go_wp2
            refine bodyPost_ret (results_cell_row rfl _ _ w.heap.size 48 #[.int .i64 0, .int .i64 0, .int .i64 0, .int .i64 0, .slice none 0 0, .slice none 0 0, .int .i64 zb, .int .i64 3] (0, 0) _ rfl (by refine blk_put (cs := #[.int .i64 0, .int .i64 0, .int .i64 0, .int .i64 0, .slice none 0 0, .slice none 0 0, .int .i64 zb, .int .i64 0]) ?_ 7 _ rfl; refine blk_put (cs := #[.int .i64 0, .int .i64 0, .int .i64 0, .int .i64 0, .slice none 0 0, .slice none 0 0, .int .i64 0, .int .i64 0]) ?_ 6 _ rfl; refine blk_put (cs := #[.int .i64 0, .int .i64 0, .int .i64 0, .int .i64 0, .slice none 0 0, .slice none 0 0, .int .i64 0, .int .i64 0]) ?_ 5 _ rfl; refine blk_put (cs := #[.int .i64 0, .int .i64 0, .int .i64 0, .int .i64 0, .slice none 0 0, .slice none 0 0, .int .i64 0, .int .i64 0]) ?_ 4 _ rfl; refine blk_put (cs := #[.int .i64 0, .int .i64 0, .int .i64 0, .int .i64 0, .slice none 0 0, .slice none 0 0, .int .i64 0, .int .i64 0]) ?_ 3 _ rfl; refine blk_put (cs := #[.int .i64 0, .int .i64 0, .int .i64 0, .int .i64 0, .slice none 0 0, .slice none 0 0, .int .i64 0, .int .i64 0]) ?_ 2 _ rfl; refine blk_put (cs := #[.int .i64 0, .int .i64 0, .int .i64 0, .int .i64 0, .slice none 0 0, .slice none 0 0, .int .i64 0, .int .i64 0]) ?_ 1 _ rfl; refine blk_put (cs := #[.int .i64 0, .int .i64 0, .int .i64 0, .int .i64 0, .slice none 0 0, .slice none 0 0, .int .i64 0, .int .i64 0]) ?_ 0 _ rfl; exact HR6.out) Try.underlying48 rfl (by kernel_rfl)) rfl ?_
            have hv : refT b = noT zb 3 := by
              have hn := (HCo.out.symm.trans (if_pos trivial)).symm
              rw [← hn] at hT
              rw [hzb.out]
              exact hT.out
            rw [hv]
            exact ref_no w _ _ _ (by repeat (first | (with_reducible exact HB6.out) | (with_reducible refine below_drew1 ?_) | (refine below_set ?_ (Nat.le_refl _))))
            -- ]]
end Go.Proofs.Ytldoaddeaiappaa.Hand
end
section
namespace Go.Proofs.Ytldoaddeaiappaa.Hand
set_option linter.unusedVariables false
set_option linter.unusedSimpArgs false
open Go.RowKit Go.Proofs.Ytldoaddeaiappaa.R Go.Proofs.Ytldoaddeaiappaa.Bits Go.Proofs.YtldoaddeaiappaaW.PrintWords Go.Proofs.YtldoaddeaiappaaW.PrintLast Go.Proofs.YtldoaddeaiappaaW.PrintMore
set_option maxHeartbeats 8000000 in
set_option maxRecDepth 100000 in
theorem takes_law (W : World) (A : Option Addr) (c : Nat) (b : List Int) (hC : Kd.C (Kd.int .u8) W A b.length b) (hc : b.length ≤ c) (hm : b.length ≤ maxLen) (hB : isBytes b) :
    Calls Try.prog 5 #[.slice A b.length c] W fun e w' => e = .returned (.bool true) ∧ Below W.heap.size W w' := by
  have hL := Aside0.mk (fun w => gunnylaw39_lives.calls 20000 true w (lives_some 20000 (by omega)))
  by_cases hl : 9000 < b.length
  · have d1 : decide ((b.length : Int) > 9000) = true := decide_eq_true (by omega)
    have d2 : decide (9000 < (b.length : Int)) = true := decide_eq_true (by omega)
    have d3 : decide (9000 < b.length) = true := decide_eq_true hl
    clear hC hc hm hB hl
    go_enter Try.func5, Try.ntmps5
    go_wp2_with (go_at_call 8; refine (hL.out _).mono ?_; rintro e w2 ⟨rfl, hb⟩; replace hb := Aside0.mk hb)
    go_returns
    exact ⟨rfl, hb.out⟩
  · have d1 : decide ((b.length : Int) > 9000) = false := decide_eq_false (by omega)
    have d2 : decide (9000 < (b.length : Int)) = false := decide_eq_false (by omega)
    have d3 : decide (9000 < b.length) = false := decide_eq_false hl
    have hT := Aside0.mk (take_calls 6000 A c b W hC hc (refT b) (takeF_some 6000 b hB (by omega) (by omega)))
    have hS := Aside0.mk (refT_len b)
    have hl' := Aside0.mk (show b.length ≤ 9000 by omega)
    have hcv := Kd.C_string (P := Try.prog) (A := A) (c := c) Try.underlying31 Try.underlying5 Try.underlying9 hC
    replace hC := Aside0.mk hC
    replace hc := Aside0.mk hc
    replace hB := Aside0.mk hB
    clear hm hl
    have hRf := Aside0.mk (fun w hC' => ref_calls A c b w hC' hc.out hl'.out hB.out)
    generalize hr : refT b = R at hT hS hRf
    obtain ⟨⟨c0, c1, c2, c3⟩, ch, ops, at_, er⟩ := R
    clear hr
    go_enter Try.func5, Try.ntmps5
    go_upto_region 4 with (fail)
    clear hcv
    go_upto_region 5 with (go_at_call 18; refine hT.out.mono ?_; rintro e w1 ⟨v4, v5, rfl, hR4, hR5, hb1⟩; obtain ⟨A4, k4, rfl⟩ := Kd.R_slice hR4; obtain ⟨A5, k5, rfl⟩ := Kd.R_slice hR5; replace hb1 := Aside0.mk hb1; replace hR4 := Aside0.mk hR4; replace hR5 := Aside0.mk hR5)
    have hB4 := Aside0.mk (below_alloc hb1.out (.cells #[.int .i64 c0, .int .i64 c1, .int .i64 c2, .int .i64 c3, .slice A4 ch.length k4, .slice A5 ops.length k5] 27 (0, 0)))
    have hs4 := Aside0.mk (blk_new w1 (.cells #[.int .i64 c0, .int .i64 c1, .int .i64 c2, .int .i64 c3, .slice A4 ch.length k4, .slice A5 ops.length k5] 27 (0, 0)))
    have hX4 := Kd.R_reads' hR4.out
    have hX5 := Kd.R_reads' hR5.out
    have hch4 := Aside0.mk (Kd.C_alloc hX4.2.2 (.cells #[.int .i64 c0, .int .i64 c1, .int .i64 c2, .int .i64 c3, .slice A4 ch.length k4, .slice A5 ops.length k5] 27 (0, 0)))
    have hop4 := Aside0.mk (Kd.C_alloc hX5.2.2 (.cells #[.int .i64 c0, .int .i64 c1, .int .i64 c2, .int .i64 c3, .slice A4 ch.length k4, .slice A5 ops.length k5] 27 (0, 0)))
    have hle := Aside0.mk (And.intro hX4.2.1 hX5.2.1)
    clear hX4 hX5
    have hRc := Aside0.mk (hRf.out _ (Kd.C_below hC.out hB4.out))
    go_upto_region 6 with (go_at_call 19; refine hRc.out.mono ?_; rintro e w5 ⟨u4, u5, rfl, hU4, hU5, hb5⟩; obtain ⟨A6, k6, rfl⟩ := Kd.R_slice hU4; obtain ⟨A7, k7, rfl, hk7, hU7⟩ := Kd.N_reads hU5; clear hU5; replace hb5 := Aside0.mk hb5; replace hU4 := Aside0.mk hU4; replace hU7 := Aside0.mk hU7; replace hk7 := Aside0.mk hk7)
    have hB6 := Aside0.mk (below_alloc (below_step hB4.out hb5.out) (.cells #[.int .i64 c0, .int .i64 c1, .int .i64 c2, .int .i64 c3, .slice A6 ch.length k6, .slice A7 ops.length k7, .int .i64 at_, .int .i64 er] 48 (0, 0)))
    have hs6 := blk_alloc (blk_below hs4.out hb5.out) (.cells #[.int .i64 c0, .int .i64 c1, .int .i64 c2, .int .i64 c3, .slice A6 ch.length k6, .slice A7 ops.length k7, .int .i64 at_, .int .i64 er] 48 (0, 0))
    have ht6 := blk_new w5 (.cells #[.int .i64 c0, .int .i64 c1, .int .i64 c2, .int .i64 c3, .slice A6 ch.length k6, .slice A7 ops.length k7, .int .i64 at_, .int .i64 er] 48 (0, 0))
    have j0 := blk_cell hs6 0
    have j1 := blk_cell hs6 1
    have j2 := blk_cell hs6 2
    have j3 := blk_cell hs6 3
    have j4 := blk_cell hs6 4
    have j5 := blk_cell hs6 5
    have t0 := blk_cell ht6 0
    have t1 := blk_cell ht6 1
    have t2 := blk_cell ht6 2
    have t3 := blk_cell ht6 3
    have t4 := blk_cell ht6 4
    have t5 := blk_cell ht6 5
    have t6 := blk_cell ht6 6
    have t7 := blk_cell ht6 7
    have hY4 := Kd.R_reads' hU4.out
    have hSc := Aside0.mk (gunnyref39_Scripts.calls 10000 c0 c1 c2 c3 A4 k4 ch A5 k5 ops c0 c1 c2 c3 A6 k6 ch A7 k7 ops true _ (Kd.C_below hch4.out (below_alloc hb5.out (.cells #[.int .i64 c0, .int .i64 c1, .int .i64 c2, .int .i64 c3, .slice A6 ch.length k6, .slice A7 ops.length k7, .int .i64 at_, .int .i64 er] 48 (0, 0)))) hle.out.1 (Kd.C_below hop4.out (below_alloc hb5.out _)) hle.out.2 (Kd.C_alloc hY4.2.2 _) hY4.2.1 (Kd.C_alloc hU7.out _) hk7.out (sc_scripts_some 10000 c0 c1 c2 c3 ch ops (by have h : ops.length ≤ 400 := hS.out.2; omega) (by have h : ch.length ≤ 4010 := hS.out.1; omega) (by have h : ops.length ≤ 400 := hS.out.2; have h2 : ch.length ≤ 4010 := hS.out.1; omega)))
    have hcvL := Aside0.mk (fun w' (hb : Below W.heap.size W w') => Kd.C_string (P := Try.prog) (A := A) (c := c) Try.underlying31 Try.underlying5 Try.underlying9 (Kd.C_below hC.out hb))
    clear hs6 ht6 hY4
    go_wp2_with (first
      | (go_at_call 17; refine hSc.out.mono ?_; rintro e w7 ⟨rfl, hb7⟩; have hB7 := Aside0.mk (below_step hB6.out hb7); have hcv7 := hcvL.out _ hB7.out; clear hb7)
      | (go_at_call 8; refine (hL.out _).mono ?_; rintro e w8 ⟨rfl, hb8⟩; replace hb8 := Aside0.mk hb8))
    go_returns
    exact ⟨rfl, below_step hB7.out hb8.out⟩
theorem takes_walk (W : World) (A : Option Addr) (c : Nat) (xs : List Int) (hC : Kd.C (Kd.int .u8) W A xs.length xs) (hle : xs.length ≤ c) (hm : xs.length ≤ maxLen) (hx : ∀ x ∈ xs, (Lit.int .u8 x).wf = true) :
    Calls Try.prog 5 #[.slice A xs.length c] W fun e w' => e = .returned (.bool true) ∧ Below W.heap.size W w' :=
  takes_law W A c xs hC hle hm (isBytes.of_wf hx)
end Go.Proofs.Ytldoaddeaiappaa.Hand
end
