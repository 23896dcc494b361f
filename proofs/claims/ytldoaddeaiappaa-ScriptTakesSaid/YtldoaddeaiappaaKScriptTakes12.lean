/- What the law ScriptTakes uses, part 12: contracts of the functions that it reaches, walked, and plain laws (put together by a program out of texts made for this claim). -/
import Derived.Test.YtldoaddeaiappaaKScriptTakes3
import Derived.Test.YtldoaddeaiappaaKScriptTakes9
import Derived.Test.YtldoaddeaiappaaKScriptTakes10
import Derived.ArgAppend
import Derived.Below
import Derived.BigQuiet
import Derived.Deep.AppendLies
import Derived.Deep.CutBlock
import Derived.Deep.DeepCutAuto
import Derived.Deep.Draws
import Derived.Deep.LoopGhost
import Derived.Deep.OwnRows
import Derived.Deep.QuietTactic
import Derived.Deep.RegionHeld3
import Derived.Deep.RegionLaw
import Derived.Handy
import Derived.KernelRfl
import Derived.Laws.BitsLemmas
import Derived.Laws.BytesArg
import Derived.Laws.IdiomCopy
import Derived.Laws.MakeOwn
import Derived.Laws.OwnMore
import Derived.Laws.Rows
import Derived.Laws.Slices
import Derived.Laws.StructEq
import Derived.Lib.AppendStr
import Derived.Lib.ConvBytes
import Derived.Lib.SliceRun
import Derived.Maps.AppendAt
import Derived.OrdersHeld
import Derived.OwnWalk
import Derived.RowKit
import Derived.RowKit3
import Derived.Tactics
import Derived.Test.YtldoaddeaiappaaProg
import Derived.WalkKit
import Derived.WideLaws
section
namespace Go.Proofs.Ytldoaddeaiappaa.Hand
set_option linter.unusedVariables false
set_option linter.unusedSimpArgs false
open Go.RowKit Go.Proofs.Ytldoaddeaiappaa.R Go.Proofs.YtldoaddeaiappaaW.PrintWords Go.Proofs.YtldoaddeaiappaaW.PrintLast Go.Proofs.YtldoaddeaiappaaW.PrintMore
/-- The ops of bytes, from a place on, up to the first thing that is wrong. -/
def takeL (k : Nat) (b : List Int) : Nat → List S39 → Int → Int → Int → Option (List S39 × Int × Int × Int)
  | 0, _, _, _, _ => none
  | q + 1, acc, at_, bad, e => if e = 0 then (if at_ < (b.length : Int) then (if acc.length = 400 then (script_reader_fail.f b at_ bad e at_ 5).bind fun r => some (acc, r.1, r.2.1, r.2.2) else (script_reader_op.f k b at_ bad e).bind fun r => takeL k b q (acc ++ [⟨r.1, r.2.1, r.2.2.1, r.2.2.2.1, r.2.2.2.2.1⟩]) r.2.2.2.2.2.1 r.2.2.2.2.2.2.1 r.2.2.2.2.2.2.2) else some (acc, at_, bad, e)) else some (acc, at_, bad, e)
abbrev TR := (Int × Int × Int × Int) × List Bool × List S39 × Int × Int
def takeF (k : Nat) (b : List Int) : Option TR :=
  (script_reader_begin.f k b 0 0 0).bind fun r => (script_reader_choices.f k b r.2.2.2.2.1 r.2.2.2.2.2.1 r.2.2.2.2.2.2).bind fun s => (takeL k b 500 [] s.2.1 s.2.2.1 s.2.2.2).bind fun t =>
    some (if t.2.2.2 = 0 then ((r.1, r.2.1, r.2.2.1, r.2.2.2.1), s.1, t.1, t.2.1, 0) else ((0, 0, 0, 0), [], [], t.2.2.1, t.2.2.2))
theorem results_row2 {fn : Func} {p x y : Tmp} {ty : TypeId} (h : fn.results = #[.cell p ty, .tmp x, .tmp y]) (tmps : Array Value) (w : World) (g : Nat) (t : TypeId) (cs : Array Value) (fr : Nat × Nat) (fs)
    (hp : tmps.getD p undef = .pointer (some ⟨g, 0, none⟩)) (hg : w.heap[g]? = some (.cells cs t fr))
    (hu : Try.prog.underlying ty = some (.struct fs)) (hi : (Try.prog.info? ty).map (·.size) = some cs.size) :
    (results fn tmps).run Try.prog w = .ok (.tuple #[.agg cs, tmps.getD x undef, tmps.getD y undef]) w := by
  have hp' : tmps[p]?.getD undef = .pointer (some ⟨g, 0, none⟩) := by simpa using hp
  simp [results, h, hp', asAddr, run_loadVar_row w g t ty cs fr _ hg hu rfl hi]
theorem fail_ok' (b : List Int) (at_ bad x y : Int) : script_reader_fail.f b at_ bad 0 x y = some (at_, x, y) := by unfold script_reader_fail.f; rw [if_pos rfl]
def Scr (w : World) (sb : Nat) (c0 c1 c2 c3 : Int) (v4 v5 : Value) : Prop := w.heap[sb]? = some (.cells #[.int .i64 c0, .int .i64 c1, .int .i64 c2, .int .i64 c3, v4, v5] 27 (0, 0))
theorem drewN_size (w : World) (n : Nat) : (w.drewN n).heap.size = w.heap.size := by
  induction n generalizing w with
  | zero => rfl
  | succ n ih => exact ih w.drew
theorem R_apart2 {α β : Type} {d1 : Kd α} {d2 : Kd β} {e1 e2 b1 b2 : Nat} {ok1 ok2 : Nat → Prop} {W : World} {v1 v2 : Value} {xs : List α} {ys : List β} (h1 : d1.R e1 W b1 ok1 v1 xs) (h2 : d2.R e2 W b2 ok2 v2 ys) (ht : ∀ q, q ∈ e1 :: d1.E → e2 ≠ q) : d1.R e1 W b1 (fun k => ok1 k ∧ some k ≠ v2.ownBlock) v1 xs :=
  Kd.R_mono (Kd.R_bound h1) (fun k hk => ⟨hk.1, by
    obtain ⟨_, _, _, q, hq, cells, hc⟩ := hk
    exact Kd.R_ne h2 hc (ht q hq)⟩)
set_option maxHeartbeats 16000000 in
set_option maxRecDepth 100000 in
theorem take_calls (k : Nat) (A : Option Addr) (c : Nat) (b : List Int) (w : World) (hC : Kd.C (Kd.int .u8) w A b.length b) (hc : b.length ≤ c) (R : TR) (h : takeF k b = some R) :
    Calls Try.prog 18 #[.slice A b.length c] w fun e w' => ∃ v4 v5, e = .returned (.tuple #[.agg #[.int .i64 R.1.1, .int .i64 R.1.2.1, .int .i64 R.1.2.2.1, .int .i64 R.1.2.2.2, v4, v5], .int .i64 R.2.2.2.1, .int .i64 R.2.2.2.2]) ∧
      Kd.R Kd.bool 4 w' w.heap.size (fun _ => True) v4 R.2.1 ∧ Kd.R k39 39 w' w.heap.size (fun _ => True) v5 R.2.2.1 ∧ Below w.heap.size w w' := by
  unfold takeF at h
  obtain ⟨⟨c0, c1, c2, c3, a1, b1, e1⟩, hbeg, h⟩ := Option.bind_eq_some_iff.1 h
  obtain ⟨⟨ch, a2, b2, e2⟩, hcho, h⟩ := Option.bind_eq_some_iff.1 h
  obtain ⟨⟨ops, a3, b3, e3⟩, hl, h⟩ := Option.bind_eq_some_iff.1 h
  injection h with h
  have hw1 := blk_new w (.cells #[.int .i64 0, .int .i64 0, .int .i64 0, .int .i64 0, .slice none 0 0, .slice none 0 0] 27 (0, 0))
  have hb1 := below_alloc (Below.refl w.heap.size w) (.cells #[.int .i64 0, .int .i64 0, .int .i64 0, .int .i64 0, .slice none 0 0, .slice none 0 0] 27 (0, 0))
  obtain ⟨w1, hw⟩ : ∃ w1, w1 = w.alloc (.cells #[.int .i64 0, .int .i64 0, .int .i64 0, .int .i64 0, .slice none 0 0, .slice none 0 0] 27 (0, 0)) := ⟨_, rfl⟩
  rw [← hw] at hw1 hb1
  have hsz : w1.heap.size = w.heap.size + 1 := by rw [hw]; exact World.size_alloc _ _
  have hI := IsS69.new w w1 A c b 0 0 0 hb1 hc hC
  rw [hsz] at hI
  replace hI := Aside0.mk hI
  have hb2 := Aside0.mk (below_step hb1 (below_alloc (Below.refl _ w1) (.cells #[.slice A b.length c, .int .i64 0, .int .i64 0, .int .i64 0] 69 (0, 0))))
  have hrb := Aside0.mk (blk_alloc hw1 (.cells #[.slice A b.length c, .int .i64 0, .int .i64 0, .int .i64 0] 69 (0, 0)))
  have hlt := Aside0.mk (blk_lt hw1)
  replace hbeg := Aside0.mk hbeg
  replace hcho := Aside0.mk hcho
  replace hl := Aside0.mk hl
  replace h := Aside0.mk h
  replace hw := Aside0.mk hw
  replace hC := Aside0.mk hC
  replace hc := Aside0.mk hc
  clear hw1 hb1 hsz
  go_enter Try.func18, Try.ntmps18
  go_upto_region 2 with (fail)
  rw [← hw.out]
  have hBeg := Aside0.mk (script_reader_begin.calls k (w.heap.size + 1) b 0 0 0 c0 c1 c2 c3 a1 b1 e1 w _ hI.out hb2.out hbeg.out)
  go_upto_region 3 with (go_at_call 34; refine hBeg.out.mono ?_; rintro e w3 ⟨rfl, hI3, hb3, hk3⟩; replace hI3 := Aside0.mk hI3; replace hb3 := Aside0.mk hb3; replace hk3 := Aside0.mk hk3)
  have hI4 := Aside0.mk (hI3.out.alloc (.cells #[.int .i64 c0, .int .i64 c1, .int .i64 c2, .int .i64 c3, .slice none 0 0, .slice none 0 0] 27 (0, 0)))
  have hb4 := Aside0.mk (below_alloc hb3.out (.cells #[.int .i64 c0, .int .i64 c1, .int .i64 c2, .int .i64 c3, .slice none 0 0, .slice none 0 0] 27 (0, 0)))
  have hs4 := Aside0.mk (blk_new w3 (.cells #[.int .i64 c0, .int .i64 c1, .int .i64 c2, .int .i64 c3, .slice none 0 0, .slice none 0 0] 27 (0, 0)))
  have hr3 := hk3.out.blk hrb.out (by omega) (by simp)
  have hr4 := Aside0.mk (blk_alloc hr3 (.cells #[.int .i64 c0, .int .i64 c1, .int .i64 c2, .int .i64 c3, .slice none 0 0, .slice none 0 0] 27 (0, 0)))
  have hg3 := Aside0.mk (show w.heap.size + 1 < w3.heap.size from hI3.out.lt)
  have hCho := Aside0.mk (script_reader_choices.calls k (w.heap.size + 1) b a1 b1 e1 ch a2 b2 e2 w _ hI4.out hb4.out hcho.out)
  clear hr3 hI3 hb3 hBeg hI hb2 hrb hw hlt hk3
  obtain ⟨sb, hsb⟩ : ∃ sb, sb = w3.heap.size := ⟨_, rfl⟩
  rw [← hsb] at hs4 hg3 ⊢
  replace hsb := Aside0.mk hsb
  go_upto_block 0 with (go_at_call 35; refine hCho.out.mono ?_; rintro e w5 ⟨v4, rfl, hch, hI5, hb5, hk5⟩; have hs5 := hk5.blk hs4.out (by have := hg3.out; omega) (by simp); have hr5 := Aside0.mk (hk5.blk hr4.out (by omega) (by simp)); obtain ⟨A4, c4, rfl⟩ := Kd.R_slice hch; have k4 := blk_cell hs5 4; have f4 := blk_frozen hs5 4; have hch5 := Aside0.mk (Kd.R_types hch hs5 (by decide)); clear hch; replace hs5 := Aside0.mk hs5; replace hI5 := Aside0.mk hI5; replace hb5 := Aside0.mk hb5; replace hk5 := Aside0.mk hk5)
  have hs6 : Scr (w5.setCell ⟨sb, 4, none⟩ (.slice A4 ch.length c4)) sb c0 c1 c2 c3 (.slice A4 ch.length c4) (.slice none 0 0) := blk_put hs5.out 4 _ (by simp)
  have hI6 := hI5.out.far (p := ⟨sb, 4, none⟩) (by have := hg3.out; show w.heap.size + 1 ≠ sb; omega) (.slice A4 ch.length c4)
  have hch6 := Kd.R_far (p := ⟨sb, 4, none⟩) hch5.out (fun k hk => hk.2) (.slice A4 ch.length c4)
  have hb6 := below_set hb5.out (j := 4) (v := .slice A4 ch.length c4) (show w.heap.size ≤ sb by have := hg3.out; omega)
  have hr6 := blk_far hr5.out (p := ⟨sb, 4, none⟩) (by have := hg3.out; show w.heap.size ≠ sb; omega) (.slice A4 ch.length c4)
  have hlo : w.heap.size ≤ (w3.alloc (.cells #[.int .i64 c0, .int .i64 c1, .int .i64 c2, .int .i64 c3, .slice none 0 0, .slice none 0 0] 27 (0, 0))).heap.size := by have := blk_lt hr4.out; omega
  replace hch6 := Kd.R_lower hch6 hlo
  clear k4 f4 hs5 hI5 hch5 hb5 hr5 hk5 hs4 hI4 hb4 hr4 hCho hlo
  generalize w5.setCell ⟨sb, 4, none⟩ (.slice A4 ch.length c4) = w6 at hs6 hI6 hch6 hb6 hr6 ⊢
  replace hs6 := Aside0.mk hs6
  replace hI6 := Aside0.mk hI6
  replace hch6 := Aside0.mk hch6
  replace hb6 := Aside0.mk hb6
  replace hr6 := Aside0.mk hr6
  go_wp2
  go_loopg [] 500 (fun kq w' => ∃ (acc : List S39) (at_ bad e : Int) (v5 : Value), Aside0 (takeL k b kq acc at_ bad e = some (ops, a3, b3, e3)) ∧ Aside0 (IsS69 w w' (w.heap.size + 1) b at_ bad e) ∧ Aside0 (Scr w' sb c0 c1 c2 c3 (.slice A4 ch.length c4) v5) ∧ Aside0 (Kd.R Kd.bool 4 w' w.heap.size (fun k => k ≠ sb) (.slice A4 ch.length c4) ch) ∧ Aside0 (Kd.R k39 39 w' w.heap.size (fun k => True) v5 acc) ∧ Aside0 (Below w.heap.size w w') ∧ Aside0 (w'.heap[w.heap.size]? = some (.cells #[.int .i64 0, .int .i64 0, .int .i64 0, .int .i64 0, .slice none 0 0, .slice none 0 0] 27 (0, 0))) ∧ Aside0 (acc.length ≤ 400))
  case atStart => exact ⟨[], a2, b2, e2, _, hl, hI6, hs6, ⟨Kd.R_mono hch6.out (fun k hk => hk.2)⟩, ⟨Kd.R_nil _ _ _ _ _⟩, hb6, hr6, ⟨by simp⟩⟩
  case round =>
    obtain ⟨acc, at_, bad, e, v5, HT, HI, HS, HC, HR, HB, HR0, HL⟩ := hrel
    clear hs6 hI6 hch6 hb6 hr6 hl
    cases gk with
    | zero => exact absurd HT.out (by simp [takeL])
    | succ q =>
      have HTo := HT.out
      simp only [takeL] at HTo
      obtain ⟨Ag, cg, HG, hgz, hgC⟩ := HI.out
      have q0 := cellS69_0 HG
      have q1 := cellS69_1 HG
      have q2 := cellS69_2 HG
      have q3 := cellS69_3 HG
      clear HG hgz hgC
      by_cases ce : e = 0
      case neg =>
        -- [[
        rw [if_neg ce] at HTo
        injection HTo with HTo
        simp only [Prod.mk.injEq] at HTo
        obtain ⟨rfl, rfl, rfl, rfl⟩ := HTo
        have d1 : (e == 0) = false := beq_eq_false_iff_ne.mpr ce
        have d2 : (e != 0) = true := bne_iff_ne.mpr ce
        replace h := Aside0.mk (h.out.symm.trans (if_neg ce))
        obtain rfl := h.out
        go_upto_region 9 with (fail)
        have z0 : wr.cell? ⟨w.heap.size, 0, none⟩ = some (.int .i64 0) := (blk_cell HR0.out 0).trans rfl
        have z1 : wr.cell? ⟨w.heap.size, 1, none⟩ = some (.int .i64 0) := (blk_cell HR0.out 1).trans rfl
        have z2 : wr.cell? ⟨w.heap.size, 2, none⟩ = some (.int .i64 0) := (blk_cell HR0.out 2).trans rfl
        have z3 : wr.cell? ⟨w.heap.size, 3, none⟩ = some (.int .i64 0) := (blk_cell HR0.out 3).trans rfl
        have z4 : wr.cell? ⟨w.heap.size, 4, none⟩ = some (.slice none 0 0) := (blk_cell HR0.out 4).trans rfl
        have z5 : wr.cell? ⟨w.heap.size, 5, none⟩ = some (.slice none 0 0) := (blk_cell HR0.out 5).trans rfl
        have zf := fun i => blk_frozen HR0.out i
        go_region_held3 (fun w' => w'.cell? ⟨w.heap.size + 1, 2, none⟩ = some (.int .i64 bad) ∧ w'.cell? ⟨w.heap.size + 1, 3, none⟩ = some (.int .i64 e)) (first | go_keep) (fail)
        go_wp2
        refine bodyPost_ret (results_row2 rfl _ _ w.heap.size 27 #[.int .i64 0, .int .i64 0, .int .i64 0, .int .i64 0, .slice none 0 0, .slice none 0 0] (0, 0) _ rfl (by refine blk_drew ?_; refine blk_put (cs := #[.int .i64 0, .int .i64 0, .int .i64 0, .int .i64 0, .slice none 0 0, .slice none 0 0]) ?_ 5 _ rfl; refine blk_put (cs := #[.int .i64 0, .int .i64 0, .int .i64 0, .int .i64 0, .slice none 0 0, .slice none 0 0]) ?_ 4 _ rfl; refine blk_put (cs := #[.int .i64 0, .int .i64 0, .int .i64 0, .int .i64 0, .slice none 0 0, .slice none 0 0]) ?_ 3 _ rfl; refine blk_put (cs := #[.int .i64 0, .int .i64 0, .int .i64 0, .int .i64 0, .slice none 0 0, .slice none 0 0]) ?_ 2 _ rfl; refine blk_put (cs := #[.int .i64 0, .int .i64 0, .int .i64 0, .int .i64 0, .slice none 0 0, .slice none 0 0]) ?_ 1 _ rfl; refine blk_put (cs := #[.int .i64 0, .int .i64 0, .int .i64 0, .int .i64 0, .slice none 0 0, .slice none 0 0]) ?_ 0 _ rfl; exact HR0.out) Try.underlying27 (by kernel_rfl)) rfl ?_
        exact ⟨_, _, rfl, Kd.R_nil _ _ _ _ _, Kd.R_nil _ _ _ _ _, by repeat (first | (with_reducible exact HB.out) | (with_reducible refine below_drew1 ?_) | (refine below_set ?_ (Nat.le_refl _)))⟩
        -- ]]
      case pos =>
        obtain ⟨A5, c5, e5⟩ := Kd.R_slice HR.out
        subst e5
        subst ce
        rw [if_pos rfl] at HTo
        by_cases cl : at_ < (b.length : Int)
        case neg =>
          -- [[
          rw [if_neg cl] at HTo
          injection HTo with HTo
          simp only [Prod.mk.injEq] at HTo
          obtain ⟨rfl, rfl, rfl, h3⟩ := HTo
          subst h3
          replace h := Aside0.mk (h.out.symm.trans (if_pos rfl))
          obtain rfl := h.out
          have d2 : decide (at_ < (b.length : Int)) = false := decide_eq_false cl
          have nb1 : ¬ sb = w.heap.size := by have := hg3.out; omega
          have nb2 : ¬ w.heap.size = sb := by have := hg3.out; omega
          go_upto_region 10 with (fail)
          have z0 : wr.cell? ⟨w.heap.size, 0, none⟩ = some (.int .i64 0) := (blk_cell HR0.out 0).trans rfl
          have z1 : wr.cell? ⟨w.heap.size, 1, none⟩ = some (.int .i64 0) := (blk_cell HR0.out 1).trans rfl
          have z2 : wr.cell? ⟨w.heap.size, 2, none⟩ = some (.int .i64 0) := (blk_cell HR0.out 2).trans rfl
          have z3 : wr.cell? ⟨w.heap.size, 3, none⟩ = some (.int .i64 0) := (blk_cell HR0.out 3).trans rfl
          have z4 : wr.cell? ⟨w.heap.size, 4, none⟩ = some (.slice none 0 0) := (blk_cell HR0.out 4).trans rfl
          have z5 : wr.cell? ⟨w.heap.size, 5, none⟩ = some (.slice none 0 0) := (blk_cell HR0.out 5).trans rfl
          have zf := fun i => blk_frozen HR0.out i
          have s0 : wr.cell? ⟨sb, 0, none⟩ = some (.int .i64 c0) := (blk_cell HS.out 0).trans rfl
          have s1 : wr.cell? ⟨sb, 1, none⟩ = some (.int .i64 c1) := (blk_cell HS.out 1).trans rfl
          have s2 : wr.cell? ⟨sb, 2, none⟩ = some (.int .i64 c2) := (blk_cell HS.out 2).trans rfl
          have s3 : wr.cell? ⟨sb, 3, none⟩ = some (.int .i64 c3) := (blk_cell HS.out 3).trans rfl
          have s4 : wr.cell? ⟨sb, 4, none⟩ = some (.slice A4 ch.length c4) := (blk_cell HS.out 4).trans rfl
          have s5 : wr.cell? ⟨sb, 5, none⟩ = some (.slice A5 acc.length c5) := (blk_cell HS.out 5).trans rfl
          go_region_held3 (fun w' => w'.cell? ⟨sb, 0, none⟩ = some (.int .i64 c0) ∧ w'.cell? ⟨sb, 1, none⟩ = some (.int .i64 c1) ∧ w'.cell? ⟨sb, 2, none⟩ = some (.int .i64 c2) ∧ w'.cell? ⟨sb, 3, none⟩ = some (.int .i64 c3) ∧ w'.cell? ⟨sb, 4, none⟩ = some (.slice A4 ch.length c4) ∧ w'.cell? ⟨sb, 5, none⟩ = some (.slice A5 acc.length c5) ∧ w'.cell? ⟨w.heap.size + 1, 1, none⟩ = some (.int .i64 at_)) (first | go_keep) (fail)
          go_wp2
          refine bodyPost_ret (results_row2 rfl _ _ w.heap.size 27 #[.int .i64 c0, .int .i64 c1, .int .i64 c2, .int .i64 c3, .slice A4 ch.length c4, .slice A5 acc.length c5] (0, 0) _ rfl (by refine blk_drew ?_; refine blk_put (cs := #[.int .i64 c0, .int .i64 c1, .int .i64 c2, .int .i64 c3, .slice A4 ch.length c4, .slice none 0 0]) ?_ 5 _ rfl; refine blk_put (cs := #[.int .i64 c0, .int .i64 c1, .int .i64 c2, .int .i64 c3, .slice none 0 0, .slice none 0 0]) ?_ 4 _ rfl; refine blk_put (cs := #[.int .i64 c0, .int .i64 c1, .int .i64 c2, .int .i64 0, .slice none 0 0, .slice none 0 0]) ?_ 3 _ rfl; refine blk_put (cs := #[.int .i64 c0, .int .i64 c1, .int .i64 0, .int .i64 0, .slice none 0 0, .slice none 0 0]) ?_ 2 _ rfl; refine blk_put (cs := #[.int .i64 c0, .int .i64 0, .int .i64 0, .int .i64 0, .slice none 0 0, .slice none 0 0]) ?_ 1 _ rfl; refine blk_put (cs := #[.int .i64 0, .int .i64 0, .int .i64 0, .int .i64 0, .slice none 0 0, .slice none 0 0]) ?_ 0 _ rfl; exact HR0.out) Try.underlying27 (by kernel_rfl)) rfl ?_
          have HC2 := Kd.R_types HC.out HR0.out (by decide)
          have HR2 := Kd.R_types HR.out HR0.out (by decide)
          have HC3 := Kd.R_drew (Kd.R_far (p := ⟨w.heap.size, 5, none⟩) (Kd.R_far (p := ⟨w.heap.size, 4, none⟩) (Kd.R_far (p := ⟨w.heap.size, 3, none⟩) (Kd.R_far (p := ⟨w.heap.size, 2, none⟩) (Kd.R_far (p := ⟨w.heap.size, 1, none⟩) (Kd.R_far (p := ⟨w.heap.size, 0, none⟩) (HC2) (fun k hk => hk.2) (.int .i64 c0)) (fun k hk => hk.2) (.int .i64 c1)) (fun k hk => hk.2) (.int .i64 c2)) (fun k hk => hk.2) (.int .i64 c3)) (fun k hk => hk.2) (.slice A4 ch.length c4)) (fun k hk => hk.2) (.slice A5 acc.length c5))
          have HR3 := Kd.R_drew (Kd.R_far (p := ⟨w.heap.size, 5, none⟩) (Kd.R_far (p := ⟨w.heap.size, 4, none⟩) (Kd.R_far (p := ⟨w.heap.size, 3, none⟩) (Kd.R_far (p := ⟨w.heap.size, 2, none⟩) (Kd.R_far (p := ⟨w.heap.size, 1, none⟩) (Kd.R_far (p := ⟨w.heap.size, 0, none⟩) (HR2) (fun k hk => hk.2) (.int .i64 c0)) (fun k hk => hk.2) (.int .i64 c1)) (fun k hk => hk.2) (.int .i64 c2)) (fun k hk => hk.2) (.int .i64 c3)) (fun k hk => hk.2) (.slice A4 ch.length c4)) (fun k hk => hk.2) (.slice A5 acc.length c5))
          have HB3 := below_drew1 (below_set (j := 5) (v := .slice A5 acc.length c5) (below_set (j := 4) (v := .slice A4 ch.length c4) (below_set (j := 3) (v := .int .i64 c3) (below_set (j := 2) (v := .int .i64 c2) (below_set (j := 1) (v := .int .i64 c1) (below_set (j := 0) (v := .int .i64 c0) (HB.out) (Nat.le_refl _)) (Nat.le_refl _)) (Nat.le_refl _)) (Nat.le_refl _)) (Nat.le_refl _)) (Nat.le_refl _))
          exact ⟨_, _, rfl, Kd.R_mono HC3 (fun _ _ => trivial), Kd.R_mono HR3 (fun _ _ => trivial), HB3⟩
          -- ]]
        case pos =>
          rw [if_pos cl] at HTo
          have d2 : decide (at_ < (b.length : Int)) = true := decide_eq_true cl
          have s5 : wr.cell? ⟨sb, 5, none⟩ = some (.slice A5 acc.length c5) := (blk_cell HS.out 5).trans rfl
          by_cases cf : acc.length = 400
          case pos =>
            -- [[
            rw [if_pos cf, fail_ok'] at HTo
            injection HTo with HTo
            simp only [Prod.mk.injEq] at HTo
            obtain ⟨rfl, rfl, rfl, rfl⟩ := HTo
            have d4 : ((acc.length : Int) == 400) = true := by rw [cf]; rfl
            replace h := Aside0.mk (h.out.symm.trans (if_neg (by decide)))
            obtain rfl := h.out
            have hfl := Aside0.mk (script_reader_fail.calls (w.heap.size + 1) b at_ bad 0 at_ 5 at_ at_ 5 w wr HI.out HB.out (fail_ok' ..))
            replace cf := Aside0.mk cf
            go_upto_region 8 with (go_at_call 36; refine hfl.out.mono ?_; rintro e w5 ⟨rfl, hI5, hb5, hk5⟩; have hR5 := Aside0.mk (hk5.blk HR0.out (by omega) (by simp)); replace hI5 := Aside0.mk hI5; replace hb5 := Aside0.mk hb5; replace hk5 := Aside0.mk hk5)
            obtain ⟨Ag5, cg5, HG5, hgz5, hgC5⟩ := hI5.out
            have r2 := cellS69_2 HG5
            have r3 := cellS69_3 HG5
            clear HG5 hgz5 hgC5 q0 q1 q2 q3 s5
            go_upto_region 9 with (fail)
            have z0 : w5.cell? ⟨w.heap.size, 0, none⟩ = some (.int .i64 0) := (blk_cell hR5.out 0).trans rfl
            have z1 : w5.cell? ⟨w.heap.size, 1, none⟩ = some (.int .i64 0) := (blk_cell hR5.out 1).trans rfl
            have z2 : w5.cell? ⟨w.heap.size, 2, none⟩ = some (.int .i64 0) := (blk_cell hR5.out 2).trans rfl
            have z3 : w5.cell? ⟨w.heap.size, 3, none⟩ = some (.int .i64 0) := (blk_cell hR5.out 3).trans rfl
            have z4 : w5.cell? ⟨w.heap.size, 4, none⟩ = some (.slice none 0 0) := (blk_cell hR5.out 4).trans rfl
            have z5 : w5.cell? ⟨w.heap.size, 5, none⟩ = some (.slice none 0 0) := (blk_cell hR5.out 5).trans rfl
            have zf := fun i => blk_frozen hR5.out i
            go_region_held3 (fun w' => w'.cell? ⟨w.heap.size + 1, 2, none⟩ = some (.int .i64 at_) ∧ w'.cell? ⟨w.heap.size + 1, 3, none⟩ = some (.int .i64 5)) (first | go_keep) (fail)
            go_wp2
            refine bodyPost_ret (results_row2 rfl _ _ w.heap.size 27 #[.int .i64 0, .int .i64 0, .int .i64 0, .int .i64 0, .slice none 0 0, .slice none 0 0] (0, 0) _ rfl (by refine blk_drew ?_; refine blk_put (cs := #[.int .i64 0, .int .i64 0, .int .i64 0, .int .i64 0, .slice none 0 0, .slice none 0 0]) ?_ 5 _ rfl; refine blk_put (cs := #[.int .i64 0, .int .i64 0, .int .i64 0, .int .i64 0, .slice none 0 0, .slice none 0 0]) ?_ 4 _ rfl; refine blk_put (cs := #[.int .i64 0, .int .i64 0, .int .i64 0, .int .i64 0, .slice none 0 0, .slice none 0 0]) ?_ 3 _ rfl; refine blk_put (cs := #[.int .i64 0, .int .i64 0, .int .i64 0, .int .i64 0, .slice none 0 0, .slice none 0 0]) ?_ 2 _ rfl; refine blk_put (cs := #[.int .i64 0, .int .i64 0, .int .i64 0, .int .i64 0, .slice none 0 0, .slice none 0 0]) ?_ 1 _ rfl; refine blk_put (cs := #[.int .i64 0, .int .i64 0, .int .i64 0, .int .i64 0, .slice none 0 0, .slice none 0 0]) ?_ 0 _ rfl; exact hR5.out) Try.underlying27 (by kernel_rfl)) rfl ?_
            exact ⟨_, _, rfl, Kd.R_nil _ _ _ _ _, Kd.R_nil _ _ _ _ _, by repeat (first | (with_reducible exact hb5.out) | (with_reducible refine below_drew1 ?_) | (refine below_set ?_ (Nat.le_refl _)))⟩
            -- ]]
          case neg =>
            rw [if_neg cf] at HTo
            obtain ⟨⟨r1, r2, r3, r4, r5, r6, r7, r8⟩, hop, HTo⟩ := Option.bind_eq_some_iff.1 HTo
            have d4 : ((acc.length : Int) == 400) = false := beq_eq_false_iff_ne.mpr (by omega)
            have hOp := Aside0.mk (fun m => script_reader_op.calls k (w.heap.size + 1) b at_ bad 0 r1 r2 r3 r4 r5 r6 r7 r8 w (wr.drewN m) (HI.out.drewN m) (pw_below_drewN HB.out m) hop)
            replace cf := Aside0.mk cf
            replace hop := Aside0.mk hop
            replace HTo := Aside0.mk HTo
            go_upto_region 7 with (fail)
            go_region_law (first | (refine Kd.R_append_step k39 (w0 := w) w.heap.size (by rfl) (.tmp 41) (.tmp 44) 25 39 (.agg #[.int .i64 0, .int .i64 0, .int .i64 0, .int .u64 0, .slice none 0 0]) 56 rfl Try.underlying25 info39 rfl (by decide) (by omega) (.slice A5 acc.length c5) acc ⟨r1, r2, r3, r4, r5⟩ [.int .i64 r1, .int .i64 r2, .int .i64 r3, .int .u64 r4, vd] (fun _ => True) _ rfl rfl (k39_mkM _ _ _ ⟨r1, r2, r3, r4, r5⟩ hd5.out) (fun k hk => ⟨trivial, fun ek => by have := Kd.R_lt HR.out k ek.symm; have := hk.2.1; rw [hz5.out] at this; omega⟩) (fun _ _ => trivial) HR5.out hb5.out (below_size hb5.out) (by have := HL.out; omega) ?_; intro v1 w6 ho6 hb6 hg6 hat6; obtain ⟨A6, c6, e6⟩ := Kd.R_slice ho6; have e7 : v1 = .slice A6 (acc.length + 1) c6 := (by rw [e6]; simp); clear e6; subst e7; clear hat6; have hS6 := blk_grown hS5.out hg6 (Kd.R_ne HR5.out hS5.out (by decide)); have hR6 := Aside0.mk (blk_grown hR5.out hg6 (Kd.R_ne HR5.out hR5.out (by decide))); have hI6 := Aside0.mk (hI5.out.grown hg6 (hI5.out.own_ne HR5.out (by decide))); have HC6 := Aside0.mk (Kd.R_mono (Kd.R_grown (R_apart2 HC5.out HR5.out (by decide)) hg6 (fun k hk => hk.2)) (fun k hk => hk.1)); have ca6 : w6.cell? ⟨sb, 5, none⟩ = some (.slice A5 acc.length c5) := (blk_cell hS6 5).trans rfl; have cz6 := blk_frozen hS6 5; replace hS6 := Aside0.mk hS6; replace ho6 := Aside0.mk ho6; replace hb6 := Aside0.mk hb6; clear hg6 hd5 hI5 hb5 HR5 HC5 hS5 hR5 ca5 ca5a) | (go_simp; go_at_call 37; refine (hOp.out _).mono ?_; rintro e w5 ⟨vd, rfl, hd, hI5, hb5, hk5⟩; have hS5 := hk5.blk (blkd HS.out) (by have := hg3.out; omega) (by simp); have hR5 := Aside0.mk (hk5.blk (blkd HR0.out) (by omega) (by simp)); have ca5 : w5.cell? ⟨sb, 5, none⟩ = some (.slice A5 acc.length c5) := (blk_cell hS5 5).trans rfl; have ca5a : (w5.alloc (.cells #[.int .i64 r1, .int .i64 r2, .int .i64 r3, .int .u64 r4, vd] 39 (0, 0))).cell? ⟨sb, 5, none⟩ = some (.slice A5 acc.length c5) := (blk_cell (blk_alloc hS5 _) 5).trans rfl; have HR5 := Kd.R_mono (Kd.R_keep (Kd.R_drewN (HI.out.apart HR.out (by decide)) _) hk5 (fun k hk => hk.2)) (fun _ _ => trivial); have HC5 := Kd.R_mono (Kd.R_keep (Kd.R_drewN (HI.out.apart HC.out (by decide)) _) hk5 (fun k hk => hk.2)) (fun k hk => hk.1); have hd5 := Kd.R_bound hd; have hs5 := (pw_below_drewN (Below.refl 0 wr) 1).size; replace hd5 := Aside0.mk (Kd.R_lower hd5 (Nat.le_trans (below_size HB.out) (pw_below_drewN (Below.refl 0 wr) _).size)); have hz5 := Aside0.mk (drewN_size wr); replace HR5 := Aside0.mk HR5; replace HC5 := Aside0.mk HC5; replace hS5 := Aside0.mk hS5; replace hI5 := Aside0.mk hI5; replace hb5 := Aside0.mk hb5; clear hd hk5 hs5))
            all_goals
              have hs7 : Scr (w6.setCell ⟨sb, 5, none⟩ (.slice A6 (acc.length + 1) c6)) sb c0 c1 c2 c3 (.slice A4 ch.length c4) (.slice A6 (acc.length + 1) c6) := blk_put hS6.out 5 _ (by simp)
              have hI7 := hI6.out.far (p := ⟨sb, 5, none⟩) (by have := hg3.out; show w.heap.size + 1 ≠ sb; omega) (.slice A6 (acc.length + 1) c6)
              have HC7 := Kd.R_far (p := ⟨sb, 5, none⟩) HC6.out (fun k hk => hk) (.slice A6 (acc.length + 1) c6)
              have HR7 := Kd.R_mono (Kd.R_far (p := ⟨sb, 5, none⟩) (Kd.R_types ho6.out hS6.out (by decide)) (fun k hk => hk.2) (.slice A6 (acc.length + 1) c6)) (fun _ _ => trivial : ∀ k, _ → True)
              have hb7 := below_set hb6.out (j := 5) (v := (.slice A6 (acc.length + 1) c6)) (show w.heap.size ≤ sb by have := hg3.out; omega)
              have hR7 := blk_far hR6.out (p := ⟨sb, 5, none⟩) (by have := hg3.out; show w.heap.size ≠ sb; omega) (.slice A6 (acc.length + 1) c6)
              have hL7 : (acc ++ [(⟨r1, r2, r3, r4, r5⟩ : S39)]).length ≤ 400 := by have := HL.out; have := cf.out; rw [List.length_append]; simp; omega
              clear hS6 hR6 hI6 HC6 ca6 cz6 ho6 hb6
              generalize w6.setCell ⟨sb, 5, none⟩ (.slice A6 (acc.length + 1) c6) = w7 at hs7 hI7 HC7 HR7 hb7 hR7 ⊢
              replace hs7 := Aside0.mk hs7
              replace hI7 := Aside0.mk hI7
              replace HC7 := Aside0.mk HC7
              replace HR7 := Aside0.mk HR7
              replace hb7 := Aside0.mk hb7
              replace hR7 := Aside0.mk hR7
              replace hL7 := Aside0.mk hL7
              go_wp2
              go_roundg q
              case measure => omega
              case rel => exact ⟨_, r6, r7, r8, _, HTo, hI7, hs7, HC7, HR7, hb7, hR7, hL7⟩
end Go.Proofs.Ytldoaddeaiappaa.Hand
end
