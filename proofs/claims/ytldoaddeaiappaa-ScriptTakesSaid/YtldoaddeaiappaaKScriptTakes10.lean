/- What the law ScriptTakes uses, part 10: contracts of the functions that it reaches, walked, and plain laws (put together by a program out of texts made for this claim). -/
import Derived.Test.YtldoaddeaiappaaKScriptTakes6
import Derived.Test.YtldoaddeaiappaaKScriptTakes9
import Derived.ArgAppend
import Derived.Below
import Derived.BigQuiet
import Derived.Deep.AppendLies
import Derived.Deep.CutBlock
import Derived.Deep.DeepCutAuto
import Derived.Deep.Draws
import Derived.Deep.LoopGhost
import Derived.Deep.OwnRows
import Derived.Deep.QuietTactic
import Derived.Deep.RegionHeld3
import Derived.Handy
import Derived.KernelRfl
import Derived.Laws.BitsLemmas
import Derived.Laws.BytesArg
import Derived.Laws.IdiomCopy
import Derived.Laws.MakeOwn
import Derived.Laws.OwnMore
import Derived.Laws.Rows
import Derived.Laws.Slices
import Derived.Laws.StructEq
import Derived.Lib.AppendStr
import Derived.Lib.ConvBytes
import Derived.Lib.SliceRun
import Derived.Maps.AppendAt
import Derived.OrdersHeld
import Derived.OwnWalk
import Derived.RowKit
import Derived.RowKit3
import Derived.Tactics
import Derived.Test.YtldoaddeaiappaaProg
import Derived.WalkKit
import Derived.WideLaws
section
namespace Go.Proofs.Ytldoaddeaiappaa.R
open Go.RowKit Go.Proofs.YtldoaddeaiappaaW.PrintWords Go.Proofs.YtldoaddeaiappaaW.PrintLast Go.Proofs.YtldoaddeaiappaaW.PrintMore
attribute [local go_sem] max2_int min2_int max_two min_two max_three min_three max_four min_four   -- for this text's walks alone
set_option linter.unusedVariables false
set_option linter.unusedSimpArgs false
mutual
def script_reader_op.j0 : Nat → List Int → Int → Int → Int → Int → Int → Int → Int → Bool → Bool → Bool → Bool → Option (Int × Int × Int × Int × List Int × Int × Int × Int)
  | 0, _, _, _, _, _, _, _, _, _, _, _, _ => none
  | k + 1, x1000, x1001, x1002, x1003, x434000, x434001, x434002, x434003, x442000, x442001, x442002, x442003 => if x442001 = true then ((script_reader_some.f k x1000 x1001 x1002 x1003 8).bind fun bt446 => ((num_Get.f k bt446.1 0 8).bind fun bt452 => (script_reader_op.j1 k x1000 bt446.2.1 bt446.2.2.1 bt446.2.2.2 x434000 x434001 x434002 bt452.1 x442000 x442001 x442002 x442003))) else (script_reader_op.j1 k x1000 x1001 x1002 x1003 x434000 x434001 x434002 x434003 x442000 x442001 x442002 x442003)
def script_reader_op.j1 : Nat → List Int → Int → Int → Int → Int → Int → Int → Int → Bool → Bool → Bool → Bool → Option (Int × Int × Int × Int × List Int × Int × Int × Int)
  | 0, _, _, _, _, _, _, _, _, _, _, _, _ => none
  | k + 1, x1000, x1001, x1002, x1003, x434000, x434001, x434002, x434003, x442000, x442001, x442002, x442003 => if x442002 = true then ((script_reader_number.f k x1000 x1001 x1002 x1003 1).bind fun bt454 => (script_reader_op.j2 k x1000 bt454.2.1 bt454.2.2.1 bt454.2.2.2 x434000 x434001 bt454.1 x434003 x442000 x442001 x442002 x442003)) else (script_reader_op.j2 k x1000 x1001 x1002 x1003 x434000 x434001 x434002 x434003 x442000 x442001 x442002 x442003)
def script_reader_op.j2 : Nat → List Int → Int → Int → Int → Int → Int → Int → Int → Bool → Bool → Bool → Bool → Option (Int × Int × Int × Int × List Int × Int × Int × Int)
  | 0, _, _, _, _, _, _, _, _, _, _, _, _ => none
  | k + 1, x1000, x1001, x1002, x1003, x434000, x434001, x434002, x434003, x442000, x442001, x442002, x442003 => if x442003 = true then ((script_reader_number.f k x1000 x1001 x1002 x1003 1).bind fun bt458 => ((script_reader_some.f k x1000 bt458.2.1 bt458.2.2.1 bt458.2.2.2 bt458.1).bind fun bt462 => (some (x434000, x434001, x434002, x434003, bt462.1, bt462.2.1, bt462.2.2.1, bt462.2.2.2)))) else (some (x434000, x434001, x434002, x434003, ([] : List Int), x1001, x1002, x1003))
end
def script_reader_op.f (k : Nat) (s0_0 : List Int) (s0_1 : Int) (s0_2 : Int) (s0_3 : Int) : Option (Int × Int × Int × Int × List Int × Int × Int × Int) := (script_reader_number.f k s0_0 s0_1 s0_2 s0_3 1).bind fun bt429 => (if bt429.1 ≥ 11 then ((script_reader_fail.f s0_0 bt429.2.1 bt429.2.2.1 bt429.2.2.2 s0_1 3).bind fun bt434 => (some (bt429.1, 0, 0, 0, ([] : List Int), bt434.1, bt434.2.1, bt434.2.2))) else ((script_fields.f k bt429.1).bind fun bt437 => (if bt437.1 = true then ((script_reader_number.f k s0_0 bt429.2.1 bt429.2.2.1 bt429.2.2.2 1).bind fun bt442 => (script_reader_op.j0 k s0_0 bt442.2.1 bt442.2.2.1 bt442.2.2.2 bt429.1 bt442.1 0 0 bt437.1 bt437.2.1 bt437.2.2.1 bt437.2.2.2)) else (script_reader_op.j0 k s0_0 bt429.2.1 bt429.2.2.1 bt429.2.2.2 bt429.1 0 0 0 bt437.1 bt437.2.1 bt437.2.2.1 bt437.2.2.2))))
set_option maxHeartbeats 8000000 in
set_option maxRecDepth 100000 in
theorem script_reader_op.calls (k : Nat) (g : Nat) (s0_0 : List Int) (s0_1 : Int) (s0_2 : Int) (s0_3 : Int) (r1 : Int) (r2 : Int) (r3 : Int) (r4 : Int) (r5 : List Int) (r6 : Int) (r7 : Int) (r8 : Int) (w0 w : World) (hI : IsS69 w0 w g s0_0 s0_1 s0_2 s0_3) (hB : Below w0.heap.size w0 w) (h : script_reader_op.f k s0_0 s0_1 s0_2 s0_3 = some (r1, r2, r3, r4, r5, r6, r7, r8)) :
    Calls Try.prog 37 #[.pointer (some ⟨g, 0, none⟩)] w fun e w' => ∃ v4_ : Value, e = .returned (.agg #[.int .i64 r1, .int .i64 r2, .int .i64 r3, .int .u64 r4, v4_]) ∧ Kd.R (Kd.int .u8) 5 w' w.heap.size (fun _ => True) v4_ r5 ∧ IsS69 w0 w' g s0_0 r6 r7 r8 ∧ Below w0.heap.size w0 w' ∧ KeepBut w w' g none := by
  have hu39 := Try.underlying39
  have hu59 := Try.underlying59
  have HI0 := Aside0.mk hI
  have HK := Aside0.mk (KeepBut.refl w g none)
  have HL := Aside0.mk hB.size
  clear hI
  have HW0 := Aside0.mk hB.size
  have HB := Aside0.mk hB
  clear hB
  have H : ((script_reader_number.f k s0_0 s0_1 s0_2 s0_3 1).bind fun bt429 => (if bt429.1 ≥ 11 then ((script_reader_fail.f s0_0 bt429.2.1 bt429.2.2.1 bt429.2.2.2 s0_1 3).bind fun bt434 => (some (bt429.1, 0, 0, 0, ([] : List Int), bt434.1, bt434.2.1, bt434.2.2))) else ((script_fields.f k bt429.1).bind fun bt437 => (if bt437.1 = true then ((script_reader_number.f k s0_0 bt429.2.1 bt429.2.2.1 bt429.2.2.2 1).bind fun bt442 => (script_reader_op.j0 k s0_0 bt442.2.1 bt442.2.2.1 bt442.2.2.2 bt429.1 bt442.1 0 0 bt437.1 bt437.2.1 bt437.2.2.1 bt437.2.2.2)) else (script_reader_op.j0 k s0_0 bt429.2.1 bt429.2.2.1 bt429.2.2.2 bt429.1 0 0 0 bt437.1 bt437.2.1 bt437.2.2.1 bt437.2.2.2))))) = some (r1, r2, r3, r4, r5, r6, r7, r8) := h
  clear h
  replace H := Option.bind_eq_some_iff.mp H
  obtain ⟨⟨t429, t430, t431, t432⟩, A20, H⟩ := H
  replace H : (if t429 ≥ 11 then ((script_reader_fail.f s0_0 t430 t431 t432 s0_1 3).bind fun bt434 => (some (t429, 0, 0, 0, ([] : List Int), bt434.1, bt434.2.1, bt434.2.2))) else ((script_fields.f k t429).bind fun bt437 => (if bt437.1 = true then ((script_reader_number.f k s0_0 t430 t431 t432 1).bind fun bt442 => (script_reader_op.j0 k s0_0 bt442.2.1 bt442.2.2.1 bt442.2.2.2 t429 bt442.1 0 0 bt437.1 bt437.2.1 bt437.2.2.1 bt437.2.2.2)) else (script_reader_op.j0 k s0_0 t430 t431 t432 t429 0 0 0 bt437.1 bt437.2.1 bt437.2.2.1 bt437.2.2.2)))) = some (r1, r2, r3, r4, r5, r6, r7, r8) := H
  have A2 := Aside0.mk A20
  clear A20
  by_cases c3 : t429 ≥ 11
  · rw [if_pos c3] at H
    have c3b0 : decide (11 ≤ t429) = true := decide_eq_true c3
    clear c3
    replace H := Option.bind_eq_some_iff.mp H
    obtain ⟨⟨t434, t435, t436⟩, A40, H⟩ := H
    replace H : (some (t429, 0, 0, 0, ([] : List Int), t434, t435, t436)) = some (r1, r2, r3, r4, r5, r6, r7, r8) := H
    have A4 := Aside0.mk A40
    clear A40
    simp only [Option.some.injEq, Prod.mk.injEq] at H
    obtain ⟨rfl, rfl, rfl, rfl, rfl, rfl, rfl, rfl⟩ := H
    go_enter Try.func37, Try.ntmps37
    go_wp2_with (first | ((with_reducible refine gate_dst (N := 2) rfl ?_); refine box_event ?hg (N := 2) ?hd (cs := #[.int .i64 0, .int .i64 0, .int .i64 0, .int .u64 0, .slice none 0 0]) (t := 39) ?hr ?_; (case hd => rfl); (case hg => rfl); (case hr => first | (go_simp; done) | (go_simp; rfl)); intro gb428 hg w5 hbox hb; have n0_ := Aside0.mk (IsS69.below (by repeat (first | (with_reducible first | exact HI0.out | apply IsS69.alloc | apply IsS69.drewN | apply IsS69.drew | apply IsS69.set_1 | apply IsS69.set_2 | apply IsS69.set_3) | exact HI0.out)) hb); have n1_ := Aside0.mk (KeepBut.trans (by repeat (first | (with_reducible first | exact HK.out | apply KeepBut.set_ | apply keep_drewN | apply keep_drew | apply keep_alloc) | exact HK.out)) (KeepBut.of_below hb g none) (.inl rfl)); have n2_ := Aside0.mk (below_step (by repeat (first | (with_reducible first | exact HB.out | apply below_alloc | apply pw_below_drewN | apply below_drew1 | refine below_set ?_ (IsS69.ge HI0.out)) | exact HB.out)) hb); have n3_ := Aside0.mk (hbox); have n4_ := Aside0.mk ((by rw [hg]; exact (keep_size (w := w) (g := g) (row := none) (by repeat (first | (with_reducible first | exact HK.out | apply KeepBut.set_ | apply keep_drewN | apply keep_drew | apply keep_alloc) | exact HK.out))) : w.heap.size ≤ gb428)); have n5_ := Aside0.mk ((Nat.le_trans HW0.out (by rw [hg]; exact (keep_size (w := w) (g := g) (row := none) (by repeat (first | (with_reducible first | exact HK.out | apply KeepBut.set_ | apply keep_drewN | apply keep_drew | apply keep_alloc) | exact HK.out))) : w.heap.size ≤ gb428) : w0.heap.size ≤ gb428)); have n6_ := Aside0.mk ((by rw [hg]; exact Nat.ne_of_lt (IsS69.lt (show IsS69 w0 _ g s0_0 s0_1 s0_2 s0_3 from by repeat (first | (with_reducible first | exact HI0.out | apply IsS69.alloc | apply IsS69.drewN | apply IsS69.drew | apply IsS69.set_1 | apply IsS69.set_2 | apply IsS69.set_3) | exact HI0.out))) : g ≠ gb428)); have n7_ := Aside0.mk ((by rw [hg]; exact Nat.ne_of_gt (IsS69.lt (show IsS69 w0 _ g s0_0 s0_1 s0_2 s0_3 from by repeat (first | (with_reducible first | exact HI0.out | apply IsS69.alloc | apply IsS69.drewN | apply IsS69.drew | apply IsS69.set_1 | apply IsS69.set_2 | apply IsS69.set_3) | exact HI0.out))) : gb428 ≠ g)); clear HI0; clear HK; clear HB; have HI0 := n0_; have HK := n1_; have HB := n2_; have BK428 := n3_; have GW428 := n4_; have GE428 := n5_; have NB0_428 := n6_; have NB428_0 := n7_; clear n0_ n1_ n2_ n3_ n4_ n5_ n6_ n7_; clear hb hbox hg; obtain ⟨ASz6_0, cSz6_0, HGz6, hgz6, HSz6_0⟩ := HI0.out; have hcz6_0 := cellS69_0 HGz6; have hcz6_1 := cellS69_1 HGz6; have hcz6_2 := cellS69_2 HGz6; have hcz6_3 := cellS69_3 HGz6; have hfz6_1 := blk_frozen HGz6 1; have hfz6_2 := blk_frozen HGz6 2; have hfz6_3 := blk_frozen HGz6 3; clear HGz6 hgz6) | ((with_reducible refine gate_callee (f := 42) rfl ?_); refine goesL_ (some 11) rfl rfl Try.func42 (by kernel_rfl) rfl #[.pointer (some ⟨g, 0, none⟩), .int .i64 1] rfl (by (try simp only [List.map_toArray, List.map_cons, List.map_nil]); first | done | rfl | (simp only [List.length_drop, List.length_take]; rfl)) ?_; (with_reducible refine (script_reader_number.calls k g s0_0 s0_1 s0_2 s0_3 1 t429 t430 t431 t432 w0 _ ?side1 ?side2 A2.out).mono ?_); (case side1 => repeat (first | (with_reducible first | exact HI0.out | apply IsS69.alloc | apply IsS69.drewN | apply IsS69.drew | apply IsS69.set_1 | apply IsS69.set_2 | apply IsS69.set_3 | refine IsS69.far ?_ NB0_428.out _) | exact HI0.out)); (case side2 => repeat (first | (with_reducible first | exact HB.out | apply below_alloc | apply pw_below_drewN | apply below_drew1 | refine below_set ?_ (IsS69.ge HI0.out) | refine below_set ?_ GE428.out) | exact HB.out)); rintro e w7 ⟨rfl, hi, hb, hk⟩; refine ⟨_, rfl, ?_⟩; have n0_ := Aside0.mk (KeepBut.blk hk (g' := gb428) (o := .cells #[.int .i64 0, .int .i64 0, .int .i64 0, .int .u64 0, .slice none 0 0] 39 (0, 0)) (by (with_reducible repeat (first | refine blk_drewN ?_ _ | refine blk_drew ?_ | refine blk_alloc ?_ _)); exact BK428.out) NB428_0.out (by simp)); have n1_ := Aside0.mk (KeepBut.trans (by repeat (first | (with_reducible first | exact HK.out | apply KeepBut.set_ | apply keep_drewN | apply keep_drew | apply keep_alloc | refine keep_far ?_ GW428.out _) | exact HK.out)) hk (.inl rfl)); have n2_ := Aside0.mk (hb); have n3_ := Aside0.mk (hi); clear BK428; clear HK; clear HB; clear HI0; have BK428 := n0_; have HK := n1_; have HB := n2_; have HI0 := n3_; clear n0_ n1_ n2_ n3_; (try clear hb); (try clear hb2); (try clear hk); (try clear hi)) | ((with_reducible refine gate_dst (N := 4) rfl ?_); refine box_event ?hg (N := 4) ?hd (cs := #[.int .i64 0, .int .i64 0, .int .i64 0, .int .u64 0, .slice none 0 0]) (t := 39) ?hr ?_; (case hd => rfl); (case hg => rfl); (case hr => first | (go_simp; done) | (go_simp; rfl)); intro gb433 hg w8 hbox hb; have n0_ := Aside0.mk (IsS69.below (by repeat (first | (with_reducible first | exact HI0.out | apply IsS69.alloc | apply IsS69.drewN | apply IsS69.drew | apply IsS69.set_1 | apply IsS69.set_2 | apply IsS69.set_3 | refine IsS69.far ?_ NB0_428.out _) | exact HI0.out)) hb); have n1_ := Aside0.mk (blk_below (g := gb428) (o := .cells #[.int .i64 0, .int .i64 0, .int .i64 0, .int .u64 0, .slice none 0 0] 39 (0, 0)) (by (with_reducible repeat (first | refine blk_drewN ?_ _ | refine blk_drew ?_ | refine blk_alloc ?_ _)); exact BK428.out) hb); have n2_ := Aside0.mk (KeepBut.trans (by repeat (first | (with_reducible first | exact HK.out | apply KeepBut.set_ | apply keep_drewN | apply keep_drew | apply keep_alloc | refine keep_far ?_ GW428.out _) | exact HK.out)) (KeepBut.of_below hb g none) (.inl rfl)); have n3_ := Aside0.mk (below_step (by repeat (first | (with_reducible first | exact HB.out | apply below_alloc | apply pw_below_drewN | apply below_drew1 | refine below_set ?_ (IsS69.ge HI0.out) | refine below_set ?_ GE428.out) | exact HB.out)) hb); have n4_ := Aside0.mk (hbox); have n5_ := Aside0.mk ((by rw [hg]; exact (keep_size (w := w) (g := g) (row := none) (by repeat (first | (with_reducible first | exact HK.out | apply KeepBut.set_ | apply keep_drewN | apply keep_drew | apply keep_alloc | refine keep_far ?_ GW428.out _) | exact HK.out))) : w.heap.size ≤ gb433)); have n6_ := Aside0.mk ((Nat.le_trans HW0.out (by rw [hg]; exact (keep_size (w := w) (g := g) (row := none) (by repeat (first | (with_reducible first | exact HK.out | apply KeepBut.set_ | apply keep_drewN | apply keep_drew | apply keep_alloc | refine keep_far ?_ GW428.out _) | exact HK.out))) : w.heap.size ≤ gb433) : w0.heap.size ≤ gb433)); have n7_ := Aside0.mk ((by rw [hg]; exact Nat.ne_of_lt (blk_lt (g := gb428) (o := .cells #[.int .i64 0, .int .i64 0, .int .i64 0, .int .u64 0, .slice none 0 0] 39 (0, 0)) (by (with_reducible repeat (first | refine blk_drewN ?_ _ | refine blk_drew ?_ | refine blk_alloc ?_ _)); exact BK428.out)) : gb428 ≠ gb433)); have n8_ := Aside0.mk ((by rw [hg]; exact Nat.ne_of_gt (blk_lt (g := gb428) (o := .cells #[.int .i64 0, .int .i64 0, .int .i64 0, .int .u64 0, .slice none 0 0] 39 (0, 0)) (by (with_reducible repeat (first | refine blk_drewN ?_ _ | refine blk_drew ?_ | refine blk_alloc ?_ _)); exact BK428.out)) : gb433 ≠ gb428)); have n9_ := Aside0.mk ((by rw [hg]; exact Nat.ne_of_lt (IsS69.lt (show IsS69 w0 _ g s0_0 t430 t431 t432 from by repeat (first | (with_reducible first | exact HI0.out | apply IsS69.alloc | apply IsS69.drewN | apply IsS69.drew | apply IsS69.set_1 | apply IsS69.set_2 | apply IsS69.set_3 | refine IsS69.far ?_ NB0_428.out _) | exact HI0.out))) : g ≠ gb433)); have n10_ := Aside0.mk ((by rw [hg]; exact Nat.ne_of_gt (IsS69.lt (show IsS69 w0 _ g s0_0 t430 t431 t432 from by repeat (first | (with_reducible first | exact HI0.out | apply IsS69.alloc | apply IsS69.drewN | apply IsS69.drew | apply IsS69.set_1 | apply IsS69.set_2 | apply IsS69.set_3 | refine IsS69.far ?_ NB0_428.out _) | exact HI0.out))) : gb433 ≠ g)); clear HI0; clear BK428; clear HK; clear HB; have HI0 := n0_; have BK428 := n1_; have HK := n2_; have HB := n3_; have BK433 := n4_; have GW433 := n5_; have GE433 := n6_; have NB428_433 := n7_; have NB433_428 := n8_; have NB0_433 := n9_; have NB433_0 := n10_; clear n0_ n1_ n2_ n3_ n4_ n5_ n6_ n7_ n8_ n9_ n10_; clear hb hbox hg; have hnb9 := NB433_428.out; have hnc9 := NB428_433.out; have hnb10 := NB433_0.out; have hnc10 := NB0_433.out; have hcz11_0 : w8.cell? ⟨gb433, 0, none⟩ = some (.int .i64 0) := (blk_cell BK433.out 0).trans rfl; have hcz11_1 : w8.cell? ⟨gb433, 1, none⟩ = some (.int .i64 0) := (blk_cell BK433.out 1).trans rfl; have hcz11_2 : w8.cell? ⟨gb433, 2, none⟩ = some (.int .i64 0) := (blk_cell BK433.out 2).trans rfl; have hcz11_3 : w8.cell? ⟨gb433, 3, none⟩ = some (.int .u64 0) := (blk_cell BK433.out 3).trans rfl; have hcz11_4 : w8.cell? ⟨gb433, 4, none⟩ = some (.slice none 0 0) := (blk_cell BK433.out 4).trans rfl; have hfz11_0 := blk_frozen BK433.out 0; have hfz11_1 := blk_frozen BK433.out 1; have hfz11_2 := blk_frozen BK433.out 2; have hfz11_3 := blk_frozen BK433.out 3; have hfz11_4 := blk_frozen BK433.out 4) | ((with_reducible refine gate_callee (f := 36) rfl ?_); refine goesL_ (some 18) rfl rfl Try.func36 (by kernel_rfl) rfl #[.pointer (some ⟨g, 0, none⟩), .int .i64 s0_1, .int .i64 3] rfl (by (try simp only [List.map_toArray, List.map_cons, List.map_nil]); first | done | rfl | (simp only [List.length_drop, List.length_take]; rfl)) ?_; (with_reducible refine (script_reader_fail.calls g s0_0 t430 t431 t432 s0_1 3 t434 t435 t436 w0 _ ?side1 ?side2 A4.out).mono ?_); (case side1 => repeat (first | (with_reducible first | exact HI0.out | apply IsS69.alloc | apply IsS69.drewN | apply IsS69.drew | apply IsS69.set_1 | apply IsS69.set_2 | apply IsS69.set_3 | refine IsS69.far ?_ NB0_428.out _ | refine IsS69.far ?_ NB0_433.out _) | exact HI0.out)); (case side2 => repeat (first | (with_reducible first | exact HB.out | apply below_alloc | apply pw_below_drewN | apply below_drew1 | refine below_set ?_ (IsS69.ge HI0.out) | refine below_set ?_ GE428.out | refine below_set ?_ GE433.out) | exact HB.out)); rintro e w12 ⟨rfl, hi, hb, hk⟩; refine ⟨_, rfl, ?_⟩; have n0_ := Aside0.mk (KeepBut.blk hk (g' := gb428) (o := .cells #[.int .i64 0, .int .i64 0, .int .i64 0, .int .u64 0, .slice none 0 0] 39 (0, 0)) (by (with_reducible repeat (first | refine blk_drewN ?_ _ | refine blk_drew ?_ | refine blk_alloc ?_ _)); refine blk_far ?_ NB428_433.out _; (with_reducible repeat (first | refine blk_drewN ?_ _ | refine blk_drew ?_ | refine blk_alloc ?_ _)); refine blk_far ?_ NB428_433.out _; (with_reducible repeat (first | refine blk_drewN ?_ _ | refine blk_drew ?_ | refine blk_alloc ?_ _)); refine blk_far ?_ NB428_433.out _; (with_reducible repeat (first | refine blk_drewN ?_ _ | refine blk_drew ?_ | refine blk_alloc ?_ _)); refine blk_far ?_ NB428_433.out _; (with_reducible repeat (first | refine blk_drewN ?_ _ | refine blk_drew ?_ | refine blk_alloc ?_ _)); refine blk_far ?_ NB428_433.out _; (with_reducible repeat (first | refine blk_drewN ?_ _ | refine blk_drew ?_ | refine blk_alloc ?_ _)); exact BK428.out) NB428_0.out (by simp)); have n1_ := Aside0.mk (KeepBut.blk hk (g' := gb433) (o := .cells #[.int .i64 t429, .int .i64 0, .int .i64 0, .int .u64 0, .slice none 0 0] 39 (0, 0)) (by (with_reducible repeat (first | refine blk_drewN ?_ _ | refine blk_drew ?_ | refine blk_alloc ?_ _)); refine blk_put (cs := #[.int .i64 t429, .int .i64 0, .int .i64 0, .int .u64 0, .slice none 0 0]) ?_ 4 _ rfl; (with_reducible repeat (first | refine blk_drewN ?_ _ | refine blk_drew ?_ | refine blk_alloc ?_ _)); refine blk_put (cs := #[.int .i64 t429, .int .i64 0, .int .i64 0, .int .u64 0, .slice none 0 0]) ?_ 3 _ rfl; (with_reducible repeat (first | refine blk_drewN ?_ _ | refine blk_drew ?_ | refine blk_alloc ?_ _)); refine blk_put (cs := #[.int .i64 t429, .int .i64 0, .int .i64 0, .int .u64 0, .slice none 0 0]) ?_ 2 _ rfl; (with_reducible repeat (first | refine blk_drewN ?_ _ | refine blk_drew ?_ | refine blk_alloc ?_ _)); refine blk_put (cs := #[.int .i64 t429, .int .i64 0, .int .i64 0, .int .u64 0, .slice none 0 0]) ?_ 1 _ rfl; (with_reducible repeat (first | refine blk_drewN ?_ _ | refine blk_drew ?_ | refine blk_alloc ?_ _)); refine blk_put (cs := #[.int .i64 0, .int .i64 0, .int .i64 0, .int .u64 0, .slice none 0 0]) ?_ 0 _ rfl; (with_reducible repeat (first | refine blk_drewN ?_ _ | refine blk_drew ?_ | refine blk_alloc ?_ _)); exact BK433.out) NB433_0.out (by simp)); have n2_ := Aside0.mk (KeepBut.trans (by repeat (first | (with_reducible first | exact HK.out | apply KeepBut.set_ | apply keep_drewN | apply keep_drew | apply keep_alloc | refine keep_far ?_ GW428.out _ | refine keep_far ?_ GW433.out _) | exact HK.out)) hk (.inl rfl)); have n3_ := Aside0.mk (hb); have n4_ := Aside0.mk (hi); clear BK428; clear BK433; clear HK; clear HB; clear HI0; have BK428 := n0_; have BK433 := n1_; have HK := n2_; have HB := n3_; have HI0 := n4_; clear n0_ n1_ n2_ n3_ n4_; (try clear hb); (try clear hb2); (try clear hk); (try clear hi); have hcz13_0 : w12.cell? ⟨gb433, 0, none⟩ = some (.int .i64 t429) := (blk_cell BK433.out 0).trans rfl; have hcz13_1 : w12.cell? ⟨gb433, 1, none⟩ = some (.int .i64 0) := (blk_cell BK433.out 1).trans rfl; have hcz13_2 : w12.cell? ⟨gb433, 2, none⟩ = some (.int .i64 0) := (blk_cell BK433.out 2).trans rfl; have hcz13_3 : w12.cell? ⟨gb433, 3, none⟩ = some (.int .u64 0) := (blk_cell BK433.out 3).trans rfl; have hcz13_4 : w12.cell? ⟨gb433, 4, none⟩ = some (.slice none 0 0) := (blk_cell BK433.out 4).trans rfl; have hfz13_0 := blk_frozen BK433.out 0; have hfz13_1 := blk_frozen BK433.out 1; have hfz13_2 := blk_frozen BK433.out 2; have hfz13_3 := blk_frozen BK433.out 3; have hfz13_4 := blk_frozen BK433.out 4; have hnb14 := NB428_0.out; have hnc14 := NB0_428.out; have hcz15_0 : w12.cell? ⟨gb428, 0, none⟩ = some (.int .i64 0) := (blk_cell BK428.out 0).trans rfl; have hcz15_1 : w12.cell? ⟨gb428, 1, none⟩ = some (.int .i64 0) := (blk_cell BK428.out 1).trans rfl; have hcz15_2 : w12.cell? ⟨gb428, 2, none⟩ = some (.int .i64 0) := (blk_cell BK428.out 2).trans rfl; have hcz15_3 : w12.cell? ⟨gb428, 3, none⟩ = some (.int .u64 0) := (blk_cell BK428.out 3).trans rfl; have hcz15_4 : w12.cell? ⟨gb428, 4, none⟩ = some (.slice none 0 0) := (blk_cell BK428.out 4).trans rfl; have hfz15_0 := blk_frozen BK428.out 0; have hfz15_1 := blk_frozen BK428.out 1; have hfz15_2 := blk_frozen BK428.out 2; have hfz15_3 := blk_frozen BK428.out 3; have hfz15_4 := blk_frozen BK428.out 4))
    refine bodyPost_ret (results_cell_row rfl _ _ gb428 39 #[.int .i64 t429, .int .i64 0, .int .i64 0, .int .u64 0, .slice none 0 0] (0, 0) _ rfl (by (with_reducible repeat (first | refine blk_drewN ?_ _ | refine blk_drew ?_ | refine blk_alloc ?_ _)); refine blk_put (cs := #[.int .i64 t429, .int .i64 0, .int .i64 0, .int .u64 0, .slice none 0 0]) ?_ 4 _ rfl; (with_reducible repeat (first | refine blk_drewN ?_ _ | refine blk_drew ?_ | refine blk_alloc ?_ _)); refine blk_put (cs := #[.int .i64 t429, .int .i64 0, .int .i64 0, .int .u64 0, .slice none 0 0]) ?_ 3 _ rfl; (with_reducible repeat (first | refine blk_drewN ?_ _ | refine blk_drew ?_ | refine blk_alloc ?_ _)); refine blk_put (cs := #[.int .i64 t429, .int .i64 0, .int .i64 0, .int .u64 0, .slice none 0 0]) ?_ 2 _ rfl; (with_reducible repeat (first | refine blk_drewN ?_ _ | refine blk_drew ?_ | refine blk_alloc ?_ _)); refine blk_put (cs := #[.int .i64 t429, .int .i64 0, .int .i64 0, .int .u64 0, .slice none 0 0]) ?_ 1 _ rfl; (with_reducible repeat (first | refine blk_drewN ?_ _ | refine blk_drew ?_ | refine blk_alloc ?_ _)); refine blk_put (cs := #[.int .i64 0, .int .i64 0, .int .i64 0, .int .u64 0, .slice none 0 0]) ?_ 0 _ rfl; (with_reducible repeat (first | refine blk_drewN ?_ _ | refine blk_drew ?_ | refine blk_alloc ?_ _)); exact BK428.out) Try.underlying39 rfl (by kernel_rfl)) rfl ?_
    exact ⟨_, by first | rfl | (simp [errW_none, errW_some] <;> rfl) | (simp [*, errW_none, errW_some] <;> rfl), by first | exact Kd.R_nil _ _ _ _ _ | exact Kd.N_nil _ _ _ _ _ | exact Kd.V_nil _ _ _ _ _ | exact Kd.Q_nil _ _ _ _ _ | exact Kd.S_nil _ _ _ _ _, by repeat (first | (with_reducible first | exact HI0.out | apply IsS69.alloc | apply IsS69.drewN | apply IsS69.drew | apply IsS69.set_1 | apply IsS69.set_2 | apply IsS69.set_3 | refine IsS69.far ?_ NB0_428.out _ | refine IsS69.far ?_ NB0_433.out _) | exact HI0.out), by repeat (first | (with_reducible first | exact HB.out | apply below_alloc | apply pw_below_drewN | apply below_drew1 | refine below_set ?_ (IsS69.ge HI0.out) | refine below_set ?_ GE428.out | refine below_set ?_ GE433.out) | exact HB.out), by repeat (first | (with_reducible first | exact HK.out | apply KeepBut.set_ | apply keep_drewN | apply keep_drew | apply keep_alloc | refine keep_far ?_ GW428.out _ | refine keep_far ?_ GW433.out _) | exact HK.out)⟩
  · rw [if_neg c3] at H
    have c3b0 : decide (11 ≤ t429) = false := decide_eq_false c3
    clear c3
    replace H := Option.bind_eq_some_iff.mp H
    obtain ⟨⟨t437, t438, t439, t440⟩, A160, H⟩ := H
    replace H : (if t437 = true then ((script_reader_number.f k s0_0 t430 t431 t432 1).bind fun bt442 => (script_reader_op.j0 k s0_0 bt442.2.1 bt442.2.2.1 bt442.2.2.2 t429 bt442.1 0 0 t437 t438 t439 t440)) else (script_reader_op.j0 k s0_0 t430 t431 t432 t429 0 0 0 t437 t438 t439 t440)) = some (r1, r2, r3, r4, r5, r6, r7, r8) := H
    have A16 := Aside0.mk A160
    clear A160
    have HC17 := Aside0.mk H
    clear H
    go_enter Try.func37, Try.ntmps37
    go_upto_if 24 with (first | ((with_reducible refine gate_dst (N := 2) rfl ?_); refine box_event ?hg (N := 2) ?hd (cs := #[.int .i64 0, .int .i64 0, .int .i64 0, .int .u64 0, .slice none 0 0]) (t := 39) ?hr ?_; (case hd => rfl); (case hg => rfl); (case hr => first | (go_simp; done) | (go_simp; rfl)); intro gb428 hg w18 hbox hb; have n0_ := Aside0.mk (IsS69.below (by repeat (first | (with_reducible first | exact HI0.out | apply IsS69.alloc | apply IsS69.drewN | apply IsS69.drew | apply IsS69.set_1 | apply IsS69.set_2 | apply IsS69.set_3) | exact HI0.out)) hb); have n1_ := Aside0.mk (KeepBut.trans (by repeat (first | (with_reducible first | exact HK.out | apply KeepBut.set_ | apply keep_drewN | apply keep_drew | apply keep_alloc) | exact HK.out)) (KeepBut.of_below hb g none) (.inl rfl)); have n2_ := Aside0.mk (below_step (by repeat (first | (with_reducible first | exact HB.out | apply below_alloc | apply pw_below_drewN | apply below_drew1 | refine below_set ?_ (IsS69.ge HI0.out)) | exact HB.out)) hb); have n3_ := Aside0.mk (hbox); have n4_ := Aside0.mk ((by rw [hg]; exact (keep_size (w := w) (g := g) (row := none) (by repeat (first | (with_reducible first | exact HK.out | apply KeepBut.set_ | apply keep_drewN | apply keep_drew | apply keep_alloc) | exact HK.out))) : w.heap.size ≤ gb428)); have n5_ := Aside0.mk ((Nat.le_trans HW0.out (by rw [hg]; exact (keep_size (w := w) (g := g) (row := none) (by repeat (first | (with_reducible first | exact HK.out | apply KeepBut.set_ | apply keep_drewN | apply keep_drew | apply keep_alloc) | exact HK.out))) : w.heap.size ≤ gb428) : w0.heap.size ≤ gb428)); have n6_ := Aside0.mk ((by rw [hg]; exact Nat.ne_of_lt (IsS69.lt (show IsS69 w0 _ g s0_0 s0_1 s0_2 s0_3 from by repeat (first | (with_reducible first | exact HI0.out | apply IsS69.alloc | apply IsS69.drewN | apply IsS69.drew | apply IsS69.set_1 | apply IsS69.set_2 | apply IsS69.set_3) | exact HI0.out))) : g ≠ gb428)); have n7_ := Aside0.mk ((by rw [hg]; exact Nat.ne_of_gt (IsS69.lt (show IsS69 w0 _ g s0_0 s0_1 s0_2 s0_3 from by repeat (first | (with_reducible first | exact HI0.out | apply IsS69.alloc | apply IsS69.drewN | apply IsS69.drew | apply IsS69.set_1 | apply IsS69.set_2 | apply IsS69.set_3) | exact HI0.out))) : gb428 ≠ g)); clear HI0; clear HK; clear HB; have HI0 := n0_; have HK := n1_; have HB := n2_; have BK428 := n3_; have GW428 := n4_; have GE428 := n5_; have NB0_428 := n6_; have NB428_0 := n7_; clear n0_ n1_ n2_ n3_ n4_ n5_ n6_ n7_; clear hb hbox hg; obtain ⟨ASz19_0, cSz19_0, HGz19, hgz19, HSz19_0⟩ := HI0.out; have hcz19_0 := cellS69_0 HGz19; have hcz19_1 := cellS69_1 HGz19; have hcz19_2 := cellS69_2 HGz19; have hcz19_3 := cellS69_3 HGz19; have hfz19_1 := blk_frozen HGz19 1; have hfz19_2 := blk_frozen HGz19 2; have hfz19_3 := blk_frozen HGz19 3; clear HGz19 hgz19) | ((with_reducible refine gate_callee (f := 42) rfl ?_); refine goesL_ (some 11) rfl rfl Try.func42 (by kernel_rfl) rfl #[.pointer (some ⟨g, 0, none⟩), .int .i64 1] rfl (by (try simp only [List.map_toArray, List.map_cons, List.map_nil]); first | done | rfl | (simp only [List.length_drop, List.length_take]; rfl)) ?_; (with_reducible refine (script_reader_number.calls k g s0_0 s0_1 s0_2 s0_3 1 t429 t430 t431 t432 w0 _ ?side1 ?side2 A2.out).mono ?_); (case side1 => repeat (first | (with_reducible first | exact HI0.out | apply IsS69.alloc | apply IsS69.drewN | apply IsS69.drew | apply IsS69.set_1 | apply IsS69.set_2 | apply IsS69.set_3 | refine IsS69.far ?_ NB0_428.out _) | exact HI0.out)); (case side2 => repeat (first | (with_reducible first | exact HB.out | apply below_alloc | apply pw_below_drewN | apply below_drew1 | refine below_set ?_ (IsS69.ge HI0.out) | refine below_set ?_ GE428.out) | exact HB.out)); rintro e w20 ⟨rfl, hi, hb, hk⟩; refine ⟨_, rfl, ?_⟩; have n0_ := Aside0.mk (KeepBut.blk hk (g' := gb428) (o := .cells #[.int .i64 0, .int .i64 0, .int .i64 0, .int .u64 0, .slice none 0 0] 39 (0, 0)) (by (with_reducible repeat (first | refine blk_drewN ?_ _ | refine blk_drew ?_ | refine blk_alloc ?_ _)); exact BK428.out) NB428_0.out (by simp)); have n1_ := Aside0.mk (KeepBut.trans (by repeat (first | (with_reducible first | exact HK.out | apply KeepBut.set_ | apply keep_drewN | apply keep_drew | apply keep_alloc | refine keep_far ?_ GW428.out _) | exact HK.out)) hk (.inl rfl)); have n2_ := Aside0.mk (hb); have n3_ := Aside0.mk (hi); clear BK428; clear HK; clear HB; clear HI0; have BK428 := n0_; have HK := n1_; have HB := n2_; have HI0 := n3_; clear n0_ n1_ n2_ n3_; (try clear hb); (try clear hb2); (try clear hk); (try clear hi)) | ((with_reducible refine gate_dst (N := 4) rfl ?_); refine box_event ?hg (N := 4) ?hd (cs := #[.int .i64 0, .int .i64 0, .int .i64 0, .int .u64 0, .slice none 0 0]) (t := 39) ?hr ?_; (case hd => rfl); (case hg => rfl); (case hr => first | (go_simp; done) | (go_simp; rfl)); intro gb433 hg w21 hbox hb; have n0_ := Aside0.mk (IsS69.below (by repeat (first | (with_reducible first | exact HI0.out | apply IsS69.alloc | apply IsS69.drewN | apply IsS69.drew | apply IsS69.set_1 | apply IsS69.set_2 | apply IsS69.set_3 | refine IsS69.far ?_ NB0_428.out _) | exact HI0.out)) hb); have n1_ := Aside0.mk (blk_below (g := gb428) (o := .cells #[.int .i64 0, .int .i64 0, .int .i64 0, .int .u64 0, .slice none 0 0] 39 (0, 0)) (by (with_reducible repeat (first | refine blk_drewN ?_ _ | refine blk_drew ?_ | refine blk_alloc ?_ _)); exact BK428.out) hb); have n2_ := Aside0.mk (KeepBut.trans (by repeat (first | (with_reducible first | exact HK.out | apply KeepBut.set_ | apply keep_drewN | apply keep_drew | apply keep_alloc | refine keep_far ?_ GW428.out _) | exact HK.out)) (KeepBut.of_below hb g none) (.inl rfl)); have n3_ := Aside0.mk (below_step (by repeat (first | (with_reducible first | exact HB.out | apply below_alloc | apply pw_below_drewN | apply below_drew1 | refine below_set ?_ (IsS69.ge HI0.out) | refine below_set ?_ GE428.out) | exact HB.out)) hb); have n4_ := Aside0.mk (hbox); have n5_ := Aside0.mk ((by rw [hg]; exact (keep_size (w := w) (g := g) (row := none) (by repeat (first | (with_reducible first | exact HK.out | apply KeepBut.set_ | apply keep_drewN | apply keep_drew | apply keep_alloc | refine keep_far ?_ GW428.out _) | exact HK.out))) : w.heap.size ≤ gb433)); have n6_ := Aside0.mk ((Nat.le_trans HW0.out (by rw [hg]; exact (keep_size (w := w) (g := g) (row := none) (by repeat (first | (with_reducible first | exact HK.out | apply KeepBut.set_ | apply keep_drewN | apply keep_drew | apply keep_alloc | refine keep_far ?_ GW428.out _) | exact HK.out))) : w.heap.size ≤ gb433) : w0.heap.size ≤ gb433)); have n7_ := Aside0.mk ((by rw [hg]; exact Nat.ne_of_lt (blk_lt (g := gb428) (o := .cells #[.int .i64 0, .int .i64 0, .int .i64 0, .int .u64 0, .slice none 0 0] 39 (0, 0)) (by (with_reducible repeat (first | refine blk_drewN ?_ _ | refine blk_drew ?_ | refine blk_alloc ?_ _)); exact BK428.out)) : gb428 ≠ gb433)); have n8_ := Aside0.mk ((by rw [hg]; exact Nat.ne_of_gt (blk_lt (g := gb428) (o := .cells #[.int .i64 0, .int .i64 0, .int .i64 0, .int .u64 0, .slice none 0 0] 39 (0, 0)) (by (with_reducible repeat (first | refine blk_drewN ?_ _ | refine blk_drew ?_ | refine blk_alloc ?_ _)); exact BK428.out)) : gb433 ≠ gb428)); have n9_ := Aside0.mk ((by rw [hg]; exact Nat.ne_of_lt (IsS69.lt (show IsS69 w0 _ g s0_0 t430 t431 t432 from by repeat (first | (with_reducible first | exact HI0.out | apply IsS69.alloc | apply IsS69.drewN | apply IsS69.drew | apply IsS69.set_1 | apply IsS69.set_2 | apply IsS69.set_3 | refine IsS69.far ?_ NB0_428.out _) | exact HI0.out))) : g ≠ gb433)); have n10_ := Aside0.mk ((by rw [hg]; exact Nat.ne_of_gt (IsS69.lt (show IsS69 w0 _ g s0_0 t430 t431 t432 from by repeat (first | (with_reducible first | exact HI0.out | apply IsS69.alloc | apply IsS69.drewN | apply IsS69.drew | apply IsS69.set_1 | apply IsS69.set_2 | apply IsS69.set_3 | refine IsS69.far ?_ NB0_428.out _) | exact HI0.out))) : gb433 ≠ g)); clear HI0; clear BK428; clear HK; clear HB; have HI0 := n0_; have BK428 := n1_; have HK := n2_; have HB := n3_; have BK433 := n4_; have GW433 := n5_; have GE433 := n6_; have NB428_433 := n7_; have NB433_428 := n8_; have NB0_433 := n9_; have NB433_0 := n10_; clear n0_ n1_ n2_ n3_ n4_ n5_ n6_ n7_ n8_ n9_ n10_; clear hb hbox hg; have hnb22 := NB433_428.out; have hnc22 := NB428_433.out; have hnb23 := NB433_0.out; have hnc23 := NB0_433.out; have hcz24_0 : w21.cell? ⟨gb433, 0, none⟩ = some (.int .i64 0) := (blk_cell BK433.out 0).trans rfl; have hcz24_1 : w21.cell? ⟨gb433, 1, none⟩ = some (.int .i64 0) := (blk_cell BK433.out 1).trans rfl; have hcz24_2 : w21.cell? ⟨gb433, 2, none⟩ = some (.int .i64 0) := (blk_cell BK433.out 2).trans rfl; have hcz24_3 : w21.cell? ⟨gb433, 3, none⟩ = some (.int .u64 0) := (blk_cell BK433.out 3).trans rfl; have hcz24_4 : w21.cell? ⟨gb433, 4, none⟩ = some (.slice none 0 0) := (blk_cell BK433.out 4).trans rfl; have hfz24_0 := blk_frozen BK433.out 0; have hfz24_1 := blk_frozen BK433.out 1; have hfz24_2 := blk_frozen BK433.out 2; have hfz24_3 := blk_frozen BK433.out 3; have hfz24_4 := blk_frozen BK433.out 4) | ((with_reducible refine gate_callee (f := 27) rfl ?_); refine goesL_ (some 22) rfl rfl Try.func27 (by kernel_rfl) rfl #[.int .i64 t429] rfl (by (try simp only [List.map_toArray, List.map_cons, List.map_nil]); first | done | rfl | (simp only [List.length_drop, List.length_take]; rfl)) ?_; (with_reducible refine (script_fields.calls k t429 t437 t438 t439 t440 _ A16.out).mono ?_); rintro e w25 ⟨rfl, hb⟩; refine ⟨_, rfl, ?_⟩; have n0_ := Aside0.mk (IsS69.below (show IsS69 w0 (((((w21.setCell ⟨gb433, 0, none⟩ (.int .i64 t429)).setCell ⟨gb433, 1, none⟩ (.int .i64 0)).setCell ⟨gb433, 2, none⟩ (.int .i64 0)).setCell ⟨gb433, 3, none⟩ (.int .u64 0)).setCell ⟨gb433, 4, none⟩ (.slice none 0 0)) g s0_0 t430 t431 t432 from by repeat (first | (with_reducible first | exact HI0.out | apply IsS69.alloc | apply IsS69.drewN | apply IsS69.drew | apply IsS69.set_1 | apply IsS69.set_2 | apply IsS69.set_3 | refine IsS69.far ?_ NB0_428.out _ | refine IsS69.far ?_ NB0_433.out _) | exact HI0.out)) hb); have n1_ := Aside0.mk (blk_below (g := gb428) (o := .cells #[.int .i64 0, .int .i64 0, .int .i64 0, .int .u64 0, .slice none 0 0] 39 (0, 0)) (by (with_reducible repeat (first | refine blk_drewN ?_ _ | refine blk_drew ?_ | refine blk_alloc ?_ _)); refine blk_far ?_ NB428_433.out _; (with_reducible repeat (first | refine blk_drewN ?_ _ | refine blk_drew ?_ | refine blk_alloc ?_ _)); refine blk_far ?_ NB428_433.out _; (with_reducible repeat (first | refine blk_drewN ?_ _ | refine blk_drew ?_ | refine blk_alloc ?_ _)); refine blk_far ?_ NB428_433.out _; (with_reducible repeat (first | refine blk_drewN ?_ _ | refine blk_drew ?_ | refine blk_alloc ?_ _)); refine blk_far ?_ NB428_433.out _; (with_reducible repeat (first | refine blk_drewN ?_ _ | refine blk_drew ?_ | refine blk_alloc ?_ _)); refine blk_far ?_ NB428_433.out _; (with_reducible repeat (first | refine blk_drewN ?_ _ | refine blk_drew ?_ | refine blk_alloc ?_ _)); exact BK428.out) hb); have n2_ := Aside0.mk (blk_below (g := gb433) (o := .cells #[.int .i64 t429, .int .i64 0, .int .i64 0, .int .u64 0, .slice none 0 0] 39 (0, 0)) (by (with_reducible repeat (first | refine blk_drewN ?_ _ | refine blk_drew ?_ | refine blk_alloc ?_ _)); refine blk_put (cs := #[.int .i64 t429, .int .i64 0, .int .i64 0, .int .u64 0, .slice none 0 0]) ?_ 4 _ rfl; (with_reducible repeat (first | refine blk_drewN ?_ _ | refine blk_drew ?_ | refine blk_alloc ?_ _)); refine blk_put (cs := #[.int .i64 t429, .int .i64 0, .int .i64 0, .int .u64 0, .slice none 0 0]) ?_ 3 _ rfl; (with_reducible repeat (first | refine blk_drewN ?_ _ | refine blk_drew ?_ | refine blk_alloc ?_ _)); refine blk_put (cs := #[.int .i64 t429, .int .i64 0, .int .i64 0, .int .u64 0, .slice none 0 0]) ?_ 2 _ rfl; (with_reducible repeat (first | refine blk_drewN ?_ _ | refine blk_drew ?_ | refine blk_alloc ?_ _)); refine blk_put (cs := #[.int .i64 t429, .int .i64 0, .int .i64 0, .int .u64 0, .slice none 0 0]) ?_ 1 _ rfl; (with_reducible repeat (first | refine blk_drewN ?_ _ | refine blk_drew ?_ | refine blk_alloc ?_ _)); refine blk_put (cs := #[.int .i64 0, .int .i64 0, .int .i64 0, .int .u64 0, .slice none 0 0]) ?_ 0 _ rfl; (with_reducible repeat (first | refine blk_drewN ?_ _ | refine blk_drew ?_ | refine blk_alloc ?_ _)); exact BK433.out) hb); have n3_ := Aside0.mk (KeepBut.trans (by repeat (first | (with_reducible first | exact HK.out | apply KeepBut.set_ | apply keep_drewN | apply keep_drew | apply keep_alloc | refine keep_far ?_ GW428.out _ | refine keep_far ?_ GW433.out _) | exact HK.out)) (KeepBut.of_below hb g none) (.inl rfl)); have n4_ := Aside0.mk (below_step (by repeat (first | (with_reducible first | exact HB.out | apply below_alloc | apply pw_below_drewN | apply below_drew1 | refine below_set ?_ (IsS69.ge HI0.out) | refine below_set ?_ GE428.out | refine below_set ?_ GE433.out) | exact HB.out)) hb); clear HI0; clear BK428; clear BK433; clear HK; clear HB; have HI0 := n0_; have BK428 := n1_; have BK433 := n2_; have HK := n3_; have HB := n4_; clear n0_ n1_ n2_ n3_ n4_; (try clear hb); (try clear hb2); (try clear hk); (try clear hi)) | ((with_reducible refine gate_dst (N := 5) rfl ?_); refine box_event ?hg (N := 5) ?hd (cs := #[.bool false, .bool false, .bool false, .bool false]) (t := 59) ?hr ?_; (case hd => rfl); (case hg => rfl); (case hr => first | (go_simp; done) | (go_simp; rfl)); intro gb441 hg w26 hbox hb; have n0_ := Aside0.mk (IsS69.below (by repeat (first | (with_reducible first | exact HI0.out | apply IsS69.alloc | apply IsS69.drewN | apply IsS69.drew | apply IsS69.set_1 | apply IsS69.set_2 | apply IsS69.set_3 | refine IsS69.far ?_ NB0_428.out _ | refine IsS69.far ?_ NB0_433.out _) | exact HI0.out)) hb); have n1_ := Aside0.mk (blk_below (g := gb428) (o := .cells #[.int .i64 0, .int .i64 0, .int .i64 0, .int .u64 0, .slice none 0 0] 39 (0, 0)) (by (with_reducible repeat (first | refine blk_drewN ?_ _ | refine blk_drew ?_ | refine blk_alloc ?_ _)); exact BK428.out) hb); have n2_ := Aside0.mk (blk_below (g := gb433) (o := .cells #[.int .i64 t429, .int .i64 0, .int .i64 0, .int .u64 0, .slice none 0 0] 39 (0, 0)) (by (with_reducible repeat (first | refine blk_drewN ?_ _ | refine blk_drew ?_ | refine blk_alloc ?_ _)); exact BK433.out) hb); have n3_ := Aside0.mk (KeepBut.trans (by repeat (first | (with_reducible first | exact HK.out | apply KeepBut.set_ | apply keep_drewN | apply keep_drew | apply keep_alloc | refine keep_far ?_ GW428.out _ | refine keep_far ?_ GW433.out _) | exact HK.out)) (KeepBut.of_below hb g none) (.inl rfl)); have n4_ := Aside0.mk (below_step (by repeat (first | (with_reducible first | exact HB.out | apply below_alloc | apply pw_below_drewN | apply below_drew1 | refine below_set ?_ (IsS69.ge HI0.out) | refine below_set ?_ GE428.out | refine below_set ?_ GE433.out) | exact HB.out)) hb); have n5_ := Aside0.mk (hbox); have n6_ := Aside0.mk ((by rw [hg]; exact (keep_size (w := w) (g := g) (row := none) (by repeat (first | (with_reducible first | exact HK.out | apply KeepBut.set_ | apply keep_drewN | apply keep_drew | apply keep_alloc | refine keep_far ?_ GW428.out _ | refine keep_far ?_ GW433.out _) | exact HK.out))) : w.heap.size ≤ gb441)); have n7_ := Aside0.mk ((Nat.le_trans HW0.out (by rw [hg]; exact (keep_size (w := w) (g := g) (row := none) (by repeat (first | (with_reducible first | exact HK.out | apply KeepBut.set_ | apply keep_drewN | apply keep_drew | apply keep_alloc | refine keep_far ?_ GW428.out _ | refine keep_far ?_ GW433.out _) | exact HK.out))) : w.heap.size ≤ gb441) : w0.heap.size ≤ gb441)); have n8_ := Aside0.mk ((by rw [hg]; exact Nat.ne_of_lt (blk_lt (g := gb428) (o := .cells #[.int .i64 0, .int .i64 0, .int .i64 0, .int .u64 0, .slice none 0 0] 39 (0, 0)) (by (with_reducible repeat (first | refine blk_drewN ?_ _ | refine blk_drew ?_ | refine blk_alloc ?_ _)); exact BK428.out)) : gb428 ≠ gb441)); have n9_ := Aside0.mk ((by rw [hg]; exact Nat.ne_of_gt (blk_lt (g := gb428) (o := .cells #[.int .i64 0, .int .i64 0, .int .i64 0, .int .u64 0, .slice none 0 0] 39 (0, 0)) (by (with_reducible repeat (first | refine blk_drewN ?_ _ | refine blk_drew ?_ | refine blk_alloc ?_ _)); exact BK428.out)) : gb441 ≠ gb428)); have n10_ := Aside0.mk ((by rw [hg]; exact Nat.ne_of_lt (blk_lt (g := gb433) (o := .cells #[.int .i64 t429, .int .i64 0, .int .i64 0, .int .u64 0, .slice none 0 0] 39 (0, 0)) (by (with_reducible repeat (first | refine blk_drewN ?_ _ | refine blk_drew ?_ | refine blk_alloc ?_ _)); exact BK433.out)) : gb433 ≠ gb441)); have n11_ := Aside0.mk ((by rw [hg]; exact Nat.ne_of_gt (blk_lt (g := gb433) (o := .cells #[.int .i64 t429, .int .i64 0, .int .i64 0, .int .u64 0, .slice none 0 0] 39 (0, 0)) (by (with_reducible repeat (first | refine blk_drewN ?_ _ | refine blk_drew ?_ | refine blk_alloc ?_ _)); exact BK433.out)) : gb441 ≠ gb433)); have n12_ := Aside0.mk ((by rw [hg]; exact Nat.ne_of_lt (IsS69.lt (show IsS69 w0 _ g s0_0 t430 t431 t432 from by repeat (first | (with_reducible first | exact HI0.out | apply IsS69.alloc | apply IsS69.drewN | apply IsS69.drew | apply IsS69.set_1 | apply IsS69.set_2 | apply IsS69.set_3 | refine IsS69.far ?_ NB0_428.out _ | refine IsS69.far ?_ NB0_433.out _) | exact HI0.out))) : g ≠ gb441)); have n13_ := Aside0.mk ((by rw [hg]; exact Nat.ne_of_gt (IsS69.lt (show IsS69 w0 _ g s0_0 t430 t431 t432 from by repeat (first | (with_reducible first | exact HI0.out | apply IsS69.alloc | apply IsS69.drewN | apply IsS69.drew | apply IsS69.set_1 | apply IsS69.set_2 | apply IsS69.set_3 | refine IsS69.far ?_ NB0_428.out _ | refine IsS69.far ?_ NB0_433.out _) | exact HI0.out))) : gb441 ≠ g)); clear HI0; clear BK428; clear BK433; clear HK; clear HB; have HI0 := n0_; have BK428 := n1_; have BK433 := n2_; have HK := n3_; have HB := n4_; have BK441 := n5_; have GW441 := n6_; have GE441 := n7_; have NB428_441 := n8_; have NB441_428 := n9_; have NB433_441 := n10_; have NB441_433 := n11_; have NB0_441 := n12_; have NB441_0 := n13_; clear n0_ n1_ n2_ n3_ n4_ n5_ n6_ n7_ n8_ n9_ n10_ n11_ n12_ n13_; clear hb hbox hg; have hnb27 := NB441_428.out; have hnc27 := NB428_441.out; have hnb28 := NB441_433.out; have hnc28 := NB433_441.out; have hnb29 := NB441_0.out; have hnc29 := NB0_441.out; have hcz30_0 : w26.cell? ⟨gb441, 0, none⟩ = some (.bool false) := (blk_cell BK441.out 0).trans rfl; have hcz30_1 : w26.cell? ⟨gb441, 1, none⟩ = some (.bool false) := (blk_cell BK441.out 1).trans rfl; have hcz30_2 : w26.cell? ⟨gb441, 2, none⟩ = some (.bool false) := (blk_cell BK441.out 2).trans rfl; have hcz30_3 : w26.cell? ⟨gb441, 3, none⟩ = some (.bool false) := (blk_cell BK441.out 3).trans rfl; have hfz30_0 := blk_frozen BK441.out 0; have hfz30_1 := blk_frozen BK441.out 1; have hfz30_2 := blk_frozen BK441.out 2; have hfz30_3 := blk_frozen BK441.out 3))
    (try simp only [Act.put, List.setIfInBounds_toArray, List.set_cons_zero, List.set_cons_succ])
    go_cut [] (fun wc => ∃ (kq : Nat) (x1001_16 : Int) (x1002_16 : Int) (x1003_16 : Int) (x434001_16 : Int), Aside0 (script_reader_op.j0 kq s0_0 x1001_16 x1002_16 x1003_16 t429 x434001_16 0 0 t437 t438 t439 t440 = some (r1, r2, r3, r4, r5, r6, r7, r8)) ∧ Aside0 (kq ≤ k) ∧ Aside0 (wc.heap[gb428]? = some (.cells #[.int .i64 0, .int .i64 0, .int .i64 0, .int .u64 0, (.slice none 0 0)] 39 (0, 0))) ∧ Aside0 (wc.heap[gb433]? = some (.cells #[.int .i64 t429, .int .i64 x434001_16, .int .i64 0, .int .u64 0, (.slice none 0 0)] 39 (0, 0))) ∧ Aside0 (wc.heap[gb441]? = some (.cells #[.bool t437, .bool t438, .bool t439, .bool t440] 59 (0, 0))) ∧ Aside0 (IsS69 w0 wc g s0_0 x1001_16 x1002_16 x1003_16) ∧ Aside0 (KeepBut w wc g none) ∧ Aside0 (Below w0.heap.size w0 wc))
    case first =>
      have H := HC17.out
      clear HC17
      by_cases c31 : t437 = true
      · subst c31
        have H1 : ((script_reader_number.f k s0_0 t430 t431 t432 1).bind fun bt442 => (script_reader_op.j0 k s0_0 bt442.2.1 bt442.2.2.1 bt442.2.2.2 t429 bt442.1 0 0 true t438 t439 t440)) = some (r1, r2, r3, r4, r5, r6, r7, r8) := by rw [if_pos rfl] at H; exact H
        clear H
        have H := H1
        clear H1
        replace H := Option.bind_eq_some_iff.mp H
        obtain ⟨⟨t442, t443, t444, t445⟩, A320, H⟩ := H
        replace H : (script_reader_op.j0 k s0_0 t443 t444 t445 t429 t442 0 0 true t438 t439 t440) = some (r1, r2, r3, r4, r5, r6, r7, r8) := H
        have A32 := Aside0.mk A320
        clear A320
        have H' := Aside0.mk H
        clear H
        go_wp2_with (first | ((with_reducible refine gate_callee (f := 42) rfl ?_); refine goesL_ (some 26) rfl rfl Try.func42 (by kernel_rfl) rfl #[.pointer (some ⟨g, 0, none⟩), .int .i64 1] rfl (by (try simp only [List.map_toArray, List.map_cons, List.map_nil]); first | done | rfl | (simp only [List.length_drop, List.length_take]; rfl)) ?_; (with_reducible refine (script_reader_number.calls k g s0_0 t430 t431 t432 1 t442 t443 t444 t445 w0 _ ?side1 ?side2 A32.out).mono ?_); (case side1 => repeat (first | (with_reducible first | exact HI0.out | apply IsS69.alloc | apply IsS69.drewN | apply IsS69.drew | apply IsS69.set_1 | apply IsS69.set_2 | apply IsS69.set_3 | refine IsS69.far ?_ NB0_428.out _ | refine IsS69.far ?_ NB0_433.out _ | refine IsS69.far ?_ NB0_441.out _) | exact HI0.out)); (case side2 => repeat (first | (with_reducible first | exact HB.out | apply below_alloc | apply pw_below_drewN | apply below_drew1 | refine below_set ?_ (IsS69.ge HI0.out) | refine below_set ?_ GE428.out | refine below_set ?_ GE433.out | refine below_set ?_ GE441.out) | exact HB.out)); rintro e w33 ⟨rfl, hi, hb, hk⟩; refine ⟨_, rfl, ?_⟩; have n0_ := Aside0.mk (KeepBut.blk hk (g' := gb428) (o := .cells #[.int .i64 0, .int .i64 0, .int .i64 0, .int .u64 0, .slice none 0 0] 39 (0, 0)) (by (with_reducible repeat (first | refine blk_drewN ?_ _ | refine blk_drew ?_ | refine blk_alloc ?_ _)); refine blk_far ?_ NB428_441.out _; (with_reducible repeat (first | refine blk_drewN ?_ _ | refine blk_drew ?_ | refine blk_alloc ?_ _)); refine blk_far ?_ NB428_441.out _; (with_reducible repeat (first | refine blk_drewN ?_ _ | refine blk_drew ?_ | refine blk_alloc ?_ _)); refine blk_far ?_ NB428_441.out _; (with_reducible repeat (first | refine blk_drewN ?_ _ | refine blk_drew ?_ | refine blk_alloc ?_ _)); refine blk_far ?_ NB428_441.out _; (with_reducible repeat (first | refine blk_drewN ?_ _ | refine blk_drew ?_ | refine blk_alloc ?_ _)); exact BK428.out) NB428_0.out (by simp)); have n1_ := Aside0.mk (KeepBut.blk hk (g' := gb433) (o := .cells #[.int .i64 t429, .int .i64 0, .int .i64 0, .int .u64 0, .slice none 0 0] 39 (0, 0)) (by (with_reducible repeat (first | refine blk_drewN ?_ _ | refine blk_drew ?_ | refine blk_alloc ?_ _)); refine blk_far ?_ NB433_441.out _; (with_reducible repeat (first | refine blk_drewN ?_ _ | refine blk_drew ?_ | refine blk_alloc ?_ _)); refine blk_far ?_ NB433_441.out _; (with_reducible repeat (first | refine blk_drewN ?_ _ | refine blk_drew ?_ | refine blk_alloc ?_ _)); refine blk_far ?_ NB433_441.out _; (with_reducible repeat (first | refine blk_drewN ?_ _ | refine blk_drew ?_ | refine blk_alloc ?_ _)); refine blk_far ?_ NB433_441.out _; (with_reducible repeat (first | refine blk_drewN ?_ _ | refine blk_drew ?_ | refine blk_alloc ?_ _)); exact BK433.out) NB433_0.out (by simp)); have n2_ := Aside0.mk (KeepBut.blk hk (g' := gb441) (o := .cells #[.bool true, .bool t438, .bool t439, .bool t440] 59 (0, 0)) (by (with_reducible repeat (first | refine blk_drewN ?_ _ | refine blk_drew ?_ | refine blk_alloc ?_ _)); refine blk_put (cs := #[.bool true, .bool t438, .bool t439, .bool false]) ?_ 3 _ rfl; (with_reducible repeat (first | refine blk_drewN ?_ _ | refine blk_drew ?_ | refine blk_alloc ?_ _)); refine blk_put (cs := #[.bool true, .bool t438, .bool false, .bool false]) ?_ 2 _ rfl; (with_reducible repeat (first | refine blk_drewN ?_ _ | refine blk_drew ?_ | refine blk_alloc ?_ _)); refine blk_put (cs := #[.bool true, .bool false, .bool false, .bool false]) ?_ 1 _ rfl; (with_reducible repeat (first | refine blk_drewN ?_ _ | refine blk_drew ?_ | refine blk_alloc ?_ _)); refine blk_put (cs := #[.bool false, .bool false, .bool false, .bool false]) ?_ 0 _ rfl; (with_reducible repeat (first | refine blk_drewN ?_ _ | refine blk_drew ?_ | refine blk_alloc ?_ _)); exact BK441.out) NB441_0.out (by simp)); have n3_ := Aside0.mk (KeepBut.trans (by repeat (first | (with_reducible first | exact HK.out | apply KeepBut.set_ | apply keep_drewN | apply keep_drew | apply keep_alloc | refine keep_far ?_ GW428.out _ | refine keep_far ?_ GW433.out _ | refine keep_far ?_ GW441.out _) | exact HK.out)) hk (.inl rfl)); have n4_ := Aside0.mk (hb); have n5_ := Aside0.mk (hi); clear BK428; clear BK433; clear BK441; clear HK; clear HB; clear HI0; have BK428 := n0_; have BK433 := n1_; have BK441 := n2_; have HK := n3_; have HB := n4_; have HI0 := n5_; clear n0_ n1_ n2_ n3_ n4_ n5_; (try clear hb); (try clear hb2); (try clear hk); (try clear hi); have hnb34 := NB433_428.out; have hnc34 := NB428_433.out; have hnb35 := NB433_441.out; have hnc35 := NB441_433.out; have hnb36 := NB433_0.out; have hnc36 := NB0_433.out; have hcz37_0 : w33.cell? ⟨gb433, 0, none⟩ = some (.int .i64 t429) := (blk_cell BK433.out 0).trans rfl; have hcz37_1 : w33.cell? ⟨gb433, 1, none⟩ = some (.int .i64 0) := (blk_cell BK433.out 1).trans rfl; have hcz37_2 : w33.cell? ⟨gb433, 2, none⟩ = some (.int .i64 0) := (blk_cell BK433.out 2).trans rfl; have hcz37_3 : w33.cell? ⟨gb433, 3, none⟩ = some (.int .u64 0) := (blk_cell BK433.out 3).trans rfl; have hcz37_4 : w33.cell? ⟨gb433, 4, none⟩ = some (.slice none 0 0) := (blk_cell BK433.out 4).trans rfl; have hfz37_0 := blk_frozen BK433.out 0; have hfz37_1 := blk_frozen BK433.out 1; have hfz37_2 := blk_frozen BK433.out 2; have hfz37_3 := blk_frozen BK433.out 3; have hfz37_4 := blk_frozen BK433.out 4))
        go_meet
        case rel => exact ⟨_, (t443), (t444), (t445), (t442), H', ⟨by first | omega | exact Nat.le_refl _⟩, ⟨by (with_reducible repeat (first | refine blk_drewN ?_ _ | refine blk_drew ?_ | refine blk_alloc ?_ _)); refine blk_far ?_ NB428_433.out _; (with_reducible repeat (first | refine blk_drewN ?_ _ | refine blk_drew ?_ | refine blk_alloc ?_ _)); exact BK428.out⟩, ⟨by (with_reducible repeat (first | refine blk_drewN ?_ _ | refine blk_drew ?_ | refine blk_alloc ?_ _)); refine blk_put (cs := #[.int .i64 t429, .int .i64 0, .int .i64 0, .int .u64 0, .slice none 0 0]) ?_ 1 _ rfl; (with_reducible repeat (first | refine blk_drewN ?_ _ | refine blk_drew ?_ | refine blk_alloc ?_ _)); exact BK433.out⟩, ⟨by (with_reducible repeat (first | refine blk_drewN ?_ _ | refine blk_drew ?_ | refine blk_alloc ?_ _)); refine blk_far ?_ NB441_433.out _; (with_reducible repeat (first | refine blk_drewN ?_ _ | refine blk_drew ?_ | refine blk_alloc ?_ _)); exact BK441.out⟩, ⟨by repeat (first | (with_reducible first | exact HI0.out | apply IsS69.alloc | apply IsS69.drewN | apply IsS69.drew | apply IsS69.set_1 | apply IsS69.set_2 | apply IsS69.set_3 | refine IsS69.far ?_ NB0_428.out _ | refine IsS69.far ?_ NB0_433.out _ | refine IsS69.far ?_ NB0_441.out _) | exact HI0.out)⟩, ⟨by repeat (first | (with_reducible first | exact HK.out | apply KeepBut.set_ | apply keep_drewN | apply keep_drew | apply keep_alloc | refine keep_far ?_ GW428.out _ | refine keep_far ?_ GW433.out _ | refine keep_far ?_ GW441.out _) | exact HK.out)⟩, ⟨by repeat (first | (with_reducible first | exact HB.out | apply below_alloc | apply pw_below_drewN | apply below_drew1 | refine below_set ?_ (IsS69.ge HI0.out) | refine below_set ?_ GE428.out | refine below_set ?_ GE433.out | refine below_set ?_ GE441.out) | exact HB.out)⟩⟩
      · replace c31 := Bool.eq_false_iff.mpr c31
        subst c31
        have H1 : (script_reader_op.j0 k s0_0 t430 t431 t432 t429 0 0 0 false t438 t439 t440) = some (r1, r2, r3, r4, r5, r6, r7, r8) := by rw [if_neg (show ¬ (false = true) by decide)] at H; exact H
        clear H
        have H := H1
        clear H1
        have H' := Aside0.mk H
        clear H
        go_wp2
        go_meet
        case rel => exact ⟨_, (t430), (t431), (t432), (0), H', ⟨by first | omega | exact Nat.le_refl _⟩, ⟨by (with_reducible repeat (first | refine blk_drewN ?_ _ | refine blk_drew ?_ | refine blk_alloc ?_ _)); refine blk_far ?_ NB428_441.out _; (with_reducible repeat (first | refine blk_drewN ?_ _ | refine blk_drew ?_ | refine blk_alloc ?_ _)); refine blk_far ?_ NB428_441.out _; (with_reducible repeat (first | refine blk_drewN ?_ _ | refine blk_drew ?_ | refine blk_alloc ?_ _)); refine blk_far ?_ NB428_441.out _; (with_reducible repeat (first | refine blk_drewN ?_ _ | refine blk_drew ?_ | refine blk_alloc ?_ _)); refine blk_far ?_ NB428_441.out _; (with_reducible repeat (first | refine blk_drewN ?_ _ | refine blk_drew ?_ | refine blk_alloc ?_ _)); exact BK428.out⟩, ⟨by (with_reducible repeat (first | refine blk_drewN ?_ _ | refine blk_drew ?_ | refine blk_alloc ?_ _)); refine blk_far ?_ NB433_441.out _; (with_reducible repeat (first | refine blk_drewN ?_ _ | refine blk_drew ?_ | refine blk_alloc ?_ _)); refine blk_far ?_ NB433_441.out _; (with_reducible repeat (first | refine blk_drewN ?_ _ | refine blk_drew ?_ | refine blk_alloc ?_ _)); refine blk_far ?_ NB433_441.out _; (with_reducible repeat (first | refine blk_drewN ?_ _ | refine blk_drew ?_ | refine blk_alloc ?_ _)); refine blk_far ?_ NB433_441.out _; (with_reducible repeat (first | refine blk_drewN ?_ _ | refine blk_drew ?_ | refine blk_alloc ?_ _)); exact BK433.out⟩, ⟨by (with_reducible repeat (first | refine blk_drewN ?_ _ | refine blk_drew ?_ | refine blk_alloc ?_ _)); refine blk_put (cs := #[.bool false, .bool t438, .bool t439, .bool false]) ?_ 3 _ rfl; (with_reducible repeat (first | refine blk_drewN ?_ _ | refine blk_drew ?_ | refine blk_alloc ?_ _)); refine blk_put (cs := #[.bool false, .bool t438, .bool false, .bool false]) ?_ 2 _ rfl; (with_reducible repeat (first | refine blk_drewN ?_ _ | refine blk_drew ?_ | refine blk_alloc ?_ _)); refine blk_put (cs := #[.bool false, .bool false, .bool false, .bool false]) ?_ 1 _ rfl; (with_reducible repeat (first | refine blk_drewN ?_ _ | refine blk_drew ?_ | refine blk_alloc ?_ _)); refine blk_put (cs := #[.bool false, .bool false, .bool false, .bool false]) ?_ 0 _ rfl; (with_reducible repeat (first | refine blk_drewN ?_ _ | refine blk_drew ?_ | refine blk_alloc ?_ _)); exact BK441.out⟩, ⟨by repeat (first | (with_reducible first | exact HI0.out | apply IsS69.alloc | apply IsS69.drewN | apply IsS69.drew | apply IsS69.set_1 | apply IsS69.set_2 | apply IsS69.set_3 | refine IsS69.far ?_ NB0_428.out _ | refine IsS69.far ?_ NB0_433.out _ | refine IsS69.far ?_ NB0_441.out _) | exact HI0.out)⟩, ⟨by repeat (first | (with_reducible first | exact HK.out | apply KeepBut.set_ | apply keep_drewN | apply keep_drew | apply keep_alloc | refine keep_far ?_ GW428.out _ | refine keep_far ?_ GW433.out _ | refine keep_far ?_ GW441.out _) | exact HK.out)⟩, ⟨by repeat (first | (with_reducible first | exact HB.out | apply below_alloc | apply pw_below_drewN | apply below_drew1 | refine below_set ?_ (IsS69.ge HI0.out) | refine below_set ?_ GE428.out | refine below_set ?_ GE433.out | refine below_set ?_ GE441.out) | exact HB.out)⟩⟩
    case rest =>
      clear HC17
      try clear c1
      try clear c2
      try clear p2
      try clear c3
      try clear c3b0
      try clear c4
      try clear c9
      try clear c10
      try clear c14
      try clear c22
      try clear c23
      try clear c27
      try clear c28
      try clear c29
      try clear c31
      try clear c34
      try clear c35
      try clear c36
      try clear c37
      try clear hcz11_0
      try clear hcz11_1
      try clear hcz11_2
      try clear hcz11_3
      try clear hcz11_4
      try clear hcz13_0
      try clear hcz13_1
      try clear hcz13_2
      try clear hcz13_3
      try clear hcz13_4
      try clear hcz15_0
      try clear hcz15_1
      try clear hcz15_2
      try clear hcz15_3
      try clear hcz15_4
      try clear hcz19_0
      try clear hcz19_1
      try clear hcz19_2
      try clear hcz19_3
      try clear hcz24_0
      try clear hcz24_1
      try clear hcz24_2
      try clear hcz24_3
      try clear hcz24_4
      try clear hcz30_0
      try clear hcz30_1
      try clear hcz30_2
      try clear hcz30_3
      try clear hcz37_0
      try clear hcz37_1
      try clear hcz37_2
      try clear hcz37_3
      try clear hcz37_4
      try clear hcz6_0
      try clear hcz6_1
      try clear hcz6_2
      try clear hcz6_3
      try clear hfz11_0
      try clear hfz11_1
      try clear hfz11_2
      try clear hfz11_3
      try clear hfz11_4
      try clear hfz13_0
      try clear hfz13_1
      try clear hfz13_2
      try clear hfz13_3
      try clear hfz13_4
      try clear hfz15_0
      try clear hfz15_1
      try clear hfz15_2
      try clear hfz15_3
      try clear hfz15_4
      try clear hfz19_1
      try clear hfz19_2
      try clear hfz19_3
      try clear hfz24_0
      try clear hfz24_1
      try clear hfz24_2
      try clear hfz24_3
      try clear hfz24_4
      try clear hfz30_0
      try clear hfz30_1
      try clear hfz30_2
      try clear hfz30_3
      try clear hfz37_0
      try clear hfz37_1
      try clear hfz37_2
      try clear hfz37_3
      try clear hfz37_4
      try clear hfz6_1
      try clear hfz6_2
      try clear hfz6_3
      obtain ⟨kq, x1001_16, x1002_16, x1003_16, x434001_16, HA, HJ16, BK428, BK433, BK441, HI0, HK, HB⟩ := hcut
      cases kq with
      | zero => exact absurd HA.out (by simp [script_reader_op.j0])
      | succ kj16 =>
        have H := HA.out
        clear HA
        simp only [script_reader_op.j0] at H
        have HC38 := Aside0.mk H
        clear H
        have hnb39 := NB441_428.out
        have hnc39 := NB428_441.out
        have hnb40 := NB441_433.out
        have hnc40 := NB433_441.out
        have hnb41 := NB441_0.out
        have hnc41 := NB0_441.out
        have hcz42_0 : wc.cell? ⟨gb441, 0, none⟩ = some (.bool t437) := (blk_cell BK441.out 0).trans rfl
        have hcz42_1 : wc.cell? ⟨gb441, 1, none⟩ = some (.bool t438) := (blk_cell BK441.out 1).trans rfl
        have hcz42_2 : wc.cell? ⟨gb441, 2, none⟩ = some (.bool t439) := (blk_cell BK441.out 2).trans rfl
        have hcz42_3 : wc.cell? ⟨gb441, 3, none⟩ = some (.bool t440) := (blk_cell BK441.out 3).trans rfl
        have hfz42_0 := blk_frozen BK441.out 0
        have hfz42_1 := blk_frozen BK441.out 1
        have hfz42_2 := blk_frozen BK441.out 2
        have hfz42_3 := blk_frozen BK441.out 3
        go_upto_if 29 with (fail)
        go_cut [] (fun wc => ∃ (kq : Nat) (x1001_37 : Int) (x1002_37 : Int) (x1003_37 : Int) (x434003_37 : Int), Aside0 (script_reader_op.j1 kq s0_0 x1001_37 x1002_37 x1003_37 t429 x434001_16 0 x434003_37 t437 t438 t439 t440 = some (r1, r2, r3, r4, r5, r6, r7, r8)) ∧ Aside0 (kq ≤ kj16) ∧ Aside0 (wc.heap[gb428]? = some (.cells #[.int .i64 0, .int .i64 0, .int .i64 0, .int .u64 0, (.slice none 0 0)] 39 (0, 0))) ∧ Aside0 (wc.heap[gb433]? = some (.cells #[.int .i64 t429, .int .i64 x434001_16, .int .i64 0, .int .u64 x434003_37, (.slice none 0 0)] 39 (0, 0))) ∧ Aside0 (wc.heap[gb441]? = some (.cells #[.bool t437, .bool t438, .bool t439, .bool t440] 59 (0, 0))) ∧ Aside0 (IsS69 w0 wc g s0_0 x1001_37 x1002_37 x1003_37) ∧ Aside0 (KeepBut w wc g none) ∧ Aside0 (Below w0.heap.size w0 wc))
        case first =>
          have H := HC38.out
          clear HC38
          by_cases c43 : t438 = true
          · subst c43
            have H1 : ((script_reader_some.f kj16 s0_0 x1001_16 x1002_16 x1003_16 8).bind fun bt446 => ((num_Get.f kj16 bt446.1 0 8).bind fun bt452 => (script_reader_op.j1 kj16 s0_0 bt446.2.1 bt446.2.2.1 bt446.2.2.2 t429 x434001_16 0 bt452.1 t437 true t439 t440))) = some (r1, r2, r3, r4, r5, r6, r7, r8) := by rw [if_pos rfl] at H; exact H
            clear H
            have H := H1
            clear H1
            replace H := Option.bind_eq_some_iff.mp H
            obtain ⟨⟨t446, t449, t450, t451⟩, A440, H⟩ := H
            replace H : ((num_Get.f kj16 t446 0 8).bind fun bt452 => (script_reader_op.j1 kj16 s0_0 t449 t450 t451 t429 x434001_16 0 bt452.1 t437 true t439 t440)) = some (r1, r2, r3, r4, r5, r6, r7, r8) := H
            have A44 := Aside0.mk A440
            clear A440
            replace H := Option.bind_eq_some_iff.mp H
            obtain ⟨⟨t452, t453⟩, A450, H⟩ := H
            replace H : (script_reader_op.j1 kj16 s0_0 t449 t450 t451 t429 x434001_16 0 t452 t437 true t439 t440) = some (r1, r2, r3, r4, r5, r6, r7, r8) := H
            have A45 := Aside0.mk A450
            clear A450
            have H' := Aside0.mk H
            clear H
            go_wp2_with (first | ((with_reducible refine gate_callee (f := 43) rfl ?_); refine goesL_ (some 32) rfl rfl Try.func43 (by kernel_rfl) rfl #[.pointer (some ⟨g, 0, none⟩), .int .i64 8] rfl (by (try simp only [List.map_toArray, List.map_cons, List.map_nil]); first | done | rfl | (simp only [List.length_drop, List.length_take]; rfl)) ?_; (with_reducible refine (script_reader_some.calls kj16 g s0_0 x1001_16 x1002_16 x1003_16 8 t446 t449 t450 t451 w0 _ ?side1 ?side2 A44.out).mono ?_); (case side1 => repeat (first | (with_reducible first | exact HI0.out | apply IsS69.alloc | apply IsS69.drewN | apply IsS69.drew | apply IsS69.set_1 | apply IsS69.set_2 | apply IsS69.set_3 | refine IsS69.far ?_ NB0_428.out _ | refine IsS69.far ?_ NB0_433.out _ | refine IsS69.far ?_ NB0_441.out _) | exact HI0.out)); (case side2 => repeat (first | (with_reducible first | exact HB.out | apply below_alloc | apply pw_below_drewN | apply below_drew1 | refine below_set ?_ (IsS69.ge HI0.out) | refine below_set ?_ GE428.out | refine below_set ?_ GE433.out | refine below_set ?_ GE441.out) | exact HB.out)); rintro e w46 ⟨v447, rfl, ho0, hi, hb, hk⟩; refine ⟨_, rfl, ?_⟩; have n0_ := Aside0.mk (KeepBut.blk hk (g' := gb428) (o := .cells #[.int .i64 0, .int .i64 0, .int .i64 0, .int .u64 0, .slice none 0 0] 39 (0, 0)) (by (with_reducible repeat (first | refine blk_drewN ?_ _ | refine blk_drew ?_ | refine blk_alloc ?_ _)); exact BK428.out) NB428_0.out (by simp)); have n1_ := Aside0.mk (KeepBut.blk hk (g' := gb433) (o := .cells #[.int .i64 t429, .int .i64 x434001_16, .int .i64 0, .int .u64 0, .slice none 0 0] 39 (0, 0)) (by (with_reducible repeat (first | refine blk_drewN ?_ _ | refine blk_drew ?_ | refine blk_alloc ?_ _)); exact BK433.out) NB433_0.out (by simp)); have n2_ := Aside0.mk (KeepBut.blk hk (g' := gb441) (o := .cells #[.bool t437, .bool true, .bool t439, .bool t440] 59 (0, 0)) (by (with_reducible repeat (first | refine blk_drewN ?_ _ | refine blk_drew ?_ | refine blk_alloc ?_ _)); exact BK441.out) NB441_0.out (by simp)); have n3_ := Aside0.mk (Kd.R_lower ho0 (keep_size (w := w) (g := g) (row := none) (by repeat (first | (with_reducible first | exact HK.out | apply KeepBut.set_ | apply keep_drewN | apply keep_drew | apply keep_alloc | refine keep_far ?_ GW428.out _ | refine keep_far ?_ GW433.out _ | refine keep_far ?_ GW441.out _) | exact HK.out)))); have n4_ := Aside0.mk (KeepBut.trans (by repeat (first | (with_reducible first | exact HK.out | apply KeepBut.set_ | apply keep_drewN | apply keep_drew | apply keep_alloc | refine keep_far ?_ GW428.out _ | refine keep_far ?_ GW433.out _ | refine keep_far ?_ GW441.out _) | exact HK.out)) hk (.inl rfl)); have n5_ := Aside0.mk (hb); have n6_ := Aside0.mk (hi); clear BK428; clear BK433; clear BK441; clear HK; clear HB; clear HI0; have BK428 := n0_; have BK433 := n1_; have BK441 := n2_; have HO448 := n3_; have HK := n4_; have HB := n5_; have HI0 := n6_; clear n0_ n1_ n2_ n3_ n4_ n5_ n6_; (try clear hb); (try clear hb2); (try clear hk); (try clear hi); (try clear ho0); obtain ⟨Ao47, co47, eo47⟩ := Kd.R_slice HO448.out; subst eo47) | ((with_reducible refine gate_callee (f := 44) rfl ?_); refine goesL_ (some 33) rfl rfl Try.func44 (by kernel_rfl) rfl #[.slice Ao47 t446.length co47, .int .i64 0, .int .i64 8] rfl (by (try simp only [List.map_toArray, List.map_cons, List.map_nil]); first | done | rfl | (simp only [List.length_drop, List.length_take]; rfl)) ?_; (with_reducible refine (num_Get.calls kj16 _ _ t446 0 8 t452 t453 _ ?side1 ?side2 A45.out).mono ?_); (case side1 => repeat (first | exact (Kd.R_reads' HO448.out).2.2 | (with_reducible refine Kd.C_alloc ?_ _) | (with_reducible refine Kd.C_drewN ?_ _) | (with_reducible refine Kd.C_drew ?_))); (case side2 => exact (Kd.R_reads' HO448.out).2.1); rintro e w' ⟨rfl, ⟨nd, rfl⟩⟩; refine ⟨_, rfl, ?_⟩; (try (rw [drewN_self w46]; generalize hq_ : World.drewN w46 _ = w46; have n0_ : Aside0 (Kd.R (Kd.int .u8) 5 w46 w.heap.size (fun _ => True) (.slice Ao47 t446.length co47) t446) := ⟨by rw [← hq_]; exact (by (with_reducible repeat (first | apply Kd.R_alloc | apply Kd.R_drewN | apply Kd.R_drew)); exact HO448.out)⟩; have n1_ : Aside0 (w46.heap[gb428]? = some (.cells #[.int .i64 0, .int .i64 0, .int .i64 0, .int .u64 0, .slice none 0 0] 39 (0, 0))) := ⟨by rw [← hq_]; exact (by (with_reducible repeat (first | refine blk_drewN ?_ _ | refine blk_drew ?_ | refine blk_alloc ?_ _)); exact BK428.out)⟩; have n2_ : Aside0 (w46.heap[gb433]? = some (.cells #[.int .i64 t429, .int .i64 x434001_16, .int .i64 0, .int .u64 0, .slice none 0 0] 39 (0, 0))) := ⟨by rw [← hq_]; exact (by (with_reducible repeat (first | refine blk_drewN ?_ _ | refine blk_drew ?_ | refine blk_alloc ?_ _)); exact BK433.out)⟩; have n3_ : Aside0 (w46.heap[gb441]? = some (.cells #[.bool t437, .bool true, .bool t439, .bool t440] 59 (0, 0))) := ⟨by rw [← hq_]; exact (by (with_reducible repeat (first | refine blk_drewN ?_ _ | refine blk_drew ?_ | refine blk_alloc ?_ _)); exact BK441.out)⟩; have n4_ : Aside0 (IsS69 w0 w46 g s0_0 t449 t450 t451) := ⟨by rw [← hq_]; exact (by repeat (first | (with_reducible first | exact HI0.out | apply IsS69.alloc | apply IsS69.drewN | apply IsS69.drew | apply IsS69.set_1 | apply IsS69.set_2 | apply IsS69.set_3 | refine IsS69.far ?_ NB0_428.out _ | refine IsS69.far ?_ NB0_433.out _ | refine IsS69.far ?_ NB0_441.out _) | exact HI0.out))⟩; have n5_ : Aside0 (KeepBut w w46 g none) := ⟨by rw [← hq_]; exact (by repeat (first | (with_reducible first | exact HK.out | apply KeepBut.set_ | apply keep_drewN | apply keep_drew | apply keep_alloc | refine keep_far ?_ GW428.out _ | refine keep_far ?_ GW433.out _ | refine keep_far ?_ GW441.out _) | exact HK.out))⟩; have n6_ : Aside0 (Below w0.heap.size w0 w46) := ⟨by rw [← hq_]; exact (by repeat (first | (with_reducible first | exact HB.out | apply below_alloc | apply pw_below_drewN | apply below_drew1 | refine below_set ?_ (IsS69.ge HI0.out) | refine below_set ?_ GE428.out | refine below_set ?_ GE433.out | refine below_set ?_ GE441.out) | exact HB.out))⟩; clear HO448 BK428 BK433 BK441 HI0 HK HB hq_; have HO448 := n0_; have BK428 := n1_; have BK433 := n2_; have BK441 := n3_; have HI0 := n4_; have HK := n5_; have HB := n6_; clear n0_ n1_ n2_ n3_ n4_ n5_ n6_)); have hnb48 := NB433_428.out; have hnc48 := NB428_433.out; have hnb49 := NB433_441.out; have hnc49 := NB441_433.out; have hnb50 := NB433_0.out; have hnc50 := NB0_433.out; have hcz51_0 : w46.cell? ⟨gb433, 0, none⟩ = some (.int .i64 t429) := (blk_cell BK433.out 0).trans rfl; have hcz51_1 : w46.cell? ⟨gb433, 1, none⟩ = some (.int .i64 x434001_16) := (blk_cell BK433.out 1).trans rfl; have hcz51_2 : w46.cell? ⟨gb433, 2, none⟩ = some (.int .i64 0) := (blk_cell BK433.out 2).trans rfl; have hcz51_3 : w46.cell? ⟨gb433, 3, none⟩ = some (.int .u64 0) := (blk_cell BK433.out 3).trans rfl; have hcz51_4 : w46.cell? ⟨gb433, 4, none⟩ = some (.slice none 0 0) := (blk_cell BK433.out 4).trans rfl; have hfz51_0 := blk_frozen BK433.out 0; have hfz51_1 := blk_frozen BK433.out 1; have hfz51_2 := blk_frozen BK433.out 2; have hfz51_3 := blk_frozen BK433.out 3; have hfz51_4 := blk_frozen BK433.out 4))
            go_meet
            case rel => exact ⟨_, (t449), (t450), (t451), (t452), H', ⟨by have := HJ16.out; first | omega | exact Nat.le_refl _⟩, ⟨by (with_reducible repeat (first | refine blk_drewN ?_ _ | refine blk_drew ?_ | refine blk_alloc ?_ _)); refine blk_far ?_ NB428_433.out _; (with_reducible repeat (first | refine blk_drewN ?_ _ | refine blk_drew ?_ | refine blk_alloc ?_ _)); exact BK428.out⟩, ⟨by (with_reducible repeat (first | refine blk_drewN ?_ _ | refine blk_drew ?_ | refine blk_alloc ?_ _)); refine blk_put (cs := #[.int .i64 t429, .int .i64 x434001_16, .int .i64 0, .int .u64 0, .slice none 0 0]) ?_ 3 _ rfl; (with_reducible repeat (first | refine blk_drewN ?_ _ | refine blk_drew ?_ | refine blk_alloc ?_ _)); exact BK433.out⟩, ⟨by (with_reducible repeat (first | refine blk_drewN ?_ _ | refine blk_drew ?_ | refine blk_alloc ?_ _)); refine blk_far ?_ NB441_433.out _; (with_reducible repeat (first | refine blk_drewN ?_ _ | refine blk_drew ?_ | refine blk_alloc ?_ _)); exact BK441.out⟩, ⟨by repeat (first | (with_reducible first | exact HI0.out | apply IsS69.alloc | apply IsS69.drewN | apply IsS69.drew | apply IsS69.set_1 | apply IsS69.set_2 | apply IsS69.set_3 | refine IsS69.far ?_ NB0_428.out _ | refine IsS69.far ?_ NB0_433.out _ | refine IsS69.far ?_ NB0_441.out _) | exact HI0.out)⟩, ⟨by repeat (first | (with_reducible first | exact HK.out | apply KeepBut.set_ | apply keep_drewN | apply keep_drew | apply keep_alloc | refine keep_far ?_ GW428.out _ | refine keep_far ?_ GW433.out _ | refine keep_far ?_ GW441.out _) | exact HK.out)⟩, ⟨by repeat (first | (with_reducible first | exact HB.out | apply below_alloc | apply pw_below_drewN | apply below_drew1 | refine below_set ?_ (IsS69.ge HI0.out) | refine below_set ?_ GE428.out | refine below_set ?_ GE433.out | refine below_set ?_ GE441.out) | exact HB.out)⟩⟩
          · replace c43 := Bool.eq_false_iff.mpr c43
            subst c43
            have H1 : (script_reader_op.j1 kj16 s0_0 x1001_16 x1002_16 x1003_16 t429 x434001_16 0 0 t437 false t439 t440) = some (r1, r2, r3, r4, r5, r6, r7, r8) := by rw [if_neg (show ¬ (false = true) by decide)] at H; exact H
            clear H
            have H := H1
            clear H1
            have H' := Aside0.mk H
            clear H
            go_wp2
            go_meet
            case rel => exact ⟨_, (x1001_16), (x1002_16), (x1003_16), (0), H', ⟨by have := HJ16.out; first | omega | exact Nat.le_refl _⟩, ⟨by (with_reducible repeat (first | refine blk_drewN ?_ _ | refine blk_drew ?_ | refine blk_alloc ?_ _)); exact BK428.out⟩, ⟨by (with_reducible repeat (first | refine blk_drewN ?_ _ | refine blk_drew ?_ | refine blk_alloc ?_ _)); exact BK433.out⟩, ⟨by (with_reducible repeat (first | refine blk_drewN ?_ _ | refine blk_drew ?_ | refine blk_alloc ?_ _)); exact BK441.out⟩, ⟨by repeat (first | (with_reducible first | exact HI0.out | apply IsS69.alloc | apply IsS69.drewN | apply IsS69.drew | apply IsS69.set_1 | apply IsS69.set_2 | apply IsS69.set_3 | refine IsS69.far ?_ NB0_428.out _ | refine IsS69.far ?_ NB0_433.out _ | refine IsS69.far ?_ NB0_441.out _) | exact HI0.out)⟩, ⟨by repeat (first | (with_reducible first | exact HK.out | apply KeepBut.set_ | apply keep_drewN | apply keep_drew | apply keep_alloc | refine keep_far ?_ GW428.out _ | refine keep_far ?_ GW433.out _ | refine keep_far ?_ GW441.out _) | exact HK.out)⟩, ⟨by repeat (first | (with_reducible first | exact HB.out | apply below_alloc | apply pw_below_drewN | apply below_drew1 | refine below_set ?_ (IsS69.ge HI0.out) | refine below_set ?_ GE428.out | refine below_set ?_ GE433.out | refine below_set ?_ GE441.out) | exact HB.out)⟩⟩
        case rest =>
          clear HC38
          try clear c1
          try clear c2
          try clear p2
          try clear c3
          try clear c3b0
          try clear c4
          try clear c5
          try clear c9
          try clear c10
          try clear c14
          try clear c22
          try clear c23
          try clear c27
          try clear c28
          try clear c29
          try clear c31
          try clear c34
          try clear c35
          try clear c36
          try clear c37
          try clear c39
          try clear c40
          try clear c41
          try clear c42
          try clear c43
          try clear c44
          try clear c48
          try clear c49
          try clear c50
          try clear hcz11_0
          try clear hcz11_1
          try clear hcz11_2
          try clear hcz11_3
          try clear hcz11_4
          try clear hcz13_0
          try clear hcz13_1
          try clear hcz13_2
          try clear hcz13_3
          try clear hcz13_4
          try clear hcz15_0
          try clear hcz15_1
          try clear hcz15_2
          try clear hcz15_3
          try clear hcz15_4
          try clear hcz19_0
          try clear hcz19_1
          try clear hcz19_2
          try clear hcz19_3
          try clear hcz24_0
          try clear hcz24_1
          try clear hcz24_2
          try clear hcz24_3
          try clear hcz24_4
          try clear hcz30_0
          try clear hcz30_1
          try clear hcz30_2
          try clear hcz30_3
          try clear hcz37_0
          try clear hcz37_1
          try clear hcz37_2
          try clear hcz37_3
          try clear hcz37_4
          try clear hcz42_0
          try clear hcz42_1
          try clear hcz42_2
          try clear hcz42_3
          try clear hcz51_0
          try clear hcz51_1
          try clear hcz51_2
          try clear hcz51_3
          try clear hcz51_4
          try clear hcz6_0
          try clear hcz6_1
          try clear hcz6_2
          try clear hcz6_3
          try clear hfz11_0
          try clear hfz11_1
          try clear hfz11_2
          try clear hfz11_3
          try clear hfz11_4
          try clear hfz13_0
          try clear hfz13_1
          try clear hfz13_2
          try clear hfz13_3
          try clear hfz13_4
          try clear hfz15_0
          try clear hfz15_1
          try clear hfz15_2
          try clear hfz15_3
          try clear hfz15_4
          try clear hfz19_1
          try clear hfz19_2
          try clear hfz19_3
          try clear hfz24_0
          try clear hfz24_1
          try clear hfz24_2
          try clear hfz24_3
          try clear hfz24_4
          try clear hfz30_0
          try clear hfz30_1
          try clear hfz30_2
          try clear hfz30_3
          try clear hfz37_0
          try clear hfz37_1
          try clear hfz37_2
          try clear hfz37_3
          try clear hfz37_4
          try clear hfz42_0
          try clear hfz42_1
          try clear hfz42_2
          try clear hfz42_3
          try clear hfz51_0
          try clear hfz51_1
          try clear hfz51_2
          try clear hfz51_3
          try clear hfz51_4
          try clear hfz6_1
          try clear hfz6_2
          try clear hfz6_3
          try clear p2
          obtain ⟨kq, x1001_37, x1002_37, x1003_37, x434003_37, HA, HJ37, BK428, BK433, BK441, HI0, HK, HB⟩ := hcut
          cases kq with
          | zero => exact absurd HA.out (by simp [script_reader_op.j1])
          | succ kj37 =>
            have H := HA.out
            clear HA
            simp only [script_reader_op.j1] at H
            have HC52 := Aside0.mk H
            clear H
            have hnb53 := NB441_428.out
            have hnc53 := NB428_441.out
            have hnb54 := NB441_433.out
            have hnc54 := NB433_441.out
            have hnb55 := NB441_0.out
            have hnc55 := NB0_441.out
            have hcz56_0 : wc.cell? ⟨gb441, 0, none⟩ = some (.bool t437) := (blk_cell BK441.out 0).trans rfl
            have hcz56_1 : wc.cell? ⟨gb441, 1, none⟩ = some (.bool t438) := (blk_cell BK441.out 1).trans rfl
            have hcz56_2 : wc.cell? ⟨gb441, 2, none⟩ = some (.bool t439) := (blk_cell BK441.out 2).trans rfl
            have hcz56_3 : wc.cell? ⟨gb441, 3, none⟩ = some (.bool t440) := (blk_cell BK441.out 3).trans rfl
            have hfz56_0 := blk_frozen BK441.out 0
            have hfz56_1 := blk_frozen BK441.out 1
            have hfz56_2 := blk_frozen BK441.out 2
            have hfz56_3 := blk_frozen BK441.out 3
            go_upto_if 38 with (fail)
            go_cut [] (fun wc => ∃ (kq : Nat) (x1001_51 : Int) (x1002_51 : Int) (x1003_51 : Int) (x434002_51 : Int), Aside0 (script_reader_op.j2 kq s0_0 x1001_51 x1002_51 x1003_51 t429 x434001_16 x434002_51 x434003_37 t437 t438 t439 t440 = some (r1, r2, r3, r4, r5, r6, r7, r8)) ∧ Aside0 (kq ≤ kj37) ∧ Aside0 (wc.heap[gb428]? = some (.cells #[.int .i64 0, .int .i64 0, .int .i64 0, .int .u64 0, (.slice none 0 0)] 39 (0, 0))) ∧ Aside0 (wc.heap[gb433]? = some (.cells #[.int .i64 t429, .int .i64 x434001_16, .int .i64 x434002_51, .int .u64 x434003_37, (.slice none 0 0)] 39 (0, 0))) ∧ Aside0 (wc.heap[gb441]? = some (.cells #[.bool t437, .bool t438, .bool t439, .bool t440] 59 (0, 0))) ∧ Aside0 (IsS69 w0 wc g s0_0 x1001_51 x1002_51 x1003_51) ∧ Aside0 (KeepBut w wc g none) ∧ Aside0 (Below w0.heap.size w0 wc))
            case first =>
              have H := HC52.out
              clear HC52
              by_cases c57 : t439 = true
              · subst c57
                have H1 : ((script_reader_number.f kj37 s0_0 x1001_37 x1002_37 x1003_37 1).bind fun bt454 => (script_reader_op.j2 kj37 s0_0 bt454.2.1 bt454.2.2.1 bt454.2.2.2 t429 x434001_16 bt454.1 x434003_37 t437 t438 true t440)) = some (r1, r2, r3, r4, r5, r6, r7, r8) := by rw [if_pos rfl] at H; exact H
                clear H
                have H := H1
                clear H1
                replace H := Option.bind_eq_some_iff.mp H
                obtain ⟨⟨t454, t455, t456, t457⟩, A580, H⟩ := H
                replace H : (script_reader_op.j2 kj37 s0_0 t455 t456 t457 t429 x434001_16 t454 x434003_37 t437 t438 true t440) = some (r1, r2, r3, r4, r5, r6, r7, r8) := H
                have A58 := Aside0.mk A580
                clear A580
                have H' := Aside0.mk H
                clear H
                go_wp2_with (first | ((with_reducible refine gate_callee (f := 42) rfl ?_); refine goesL_ (some 40) rfl rfl Try.func42 (by kernel_rfl) rfl #[.pointer (some ⟨g, 0, none⟩), .int .i64 1] rfl (by (try simp only [List.map_toArray, List.map_cons, List.map_nil]); first | done | rfl | (simp only [List.length_drop, List.length_take]; rfl)) ?_; (with_reducible refine (script_reader_number.calls kj37 g s0_0 x1001_37 x1002_37 x1003_37 1 t454 t455 t456 t457 w0 _ ?side1 ?side2 A58.out).mono ?_); (case side1 => repeat (first | (with_reducible first | exact HI0.out | apply IsS69.alloc | apply IsS69.drewN | apply IsS69.drew | apply IsS69.set_1 | apply IsS69.set_2 | apply IsS69.set_3 | refine IsS69.far ?_ NB0_428.out _ | refine IsS69.far ?_ NB0_433.out _ | refine IsS69.far ?_ NB0_441.out _) | exact HI0.out)); (case side2 => repeat (first | (with_reducible first | exact HB.out | apply below_alloc | apply pw_below_drewN | apply below_drew1 | refine below_set ?_ (IsS69.ge HI0.out) | refine below_set ?_ GE428.out | refine below_set ?_ GE433.out | refine below_set ?_ GE441.out) | exact HB.out)); rintro e w59 ⟨rfl, hi, hb, hk⟩; refine ⟨_, rfl, ?_⟩; have n0_ := Aside0.mk (KeepBut.blk hk (g' := gb428) (o := .cells #[.int .i64 0, .int .i64 0, .int .i64 0, .int .u64 0, .slice none 0 0] 39 (0, 0)) (by (with_reducible repeat (first | refine blk_drewN ?_ _ | refine blk_drew ?_ | refine blk_alloc ?_ _)); exact BK428.out) NB428_0.out (by simp)); have n1_ := Aside0.mk (KeepBut.blk hk (g' := gb433) (o := .cells #[.int .i64 t429, .int .i64 x434001_16, .int .i64 0, .int .u64 x434003_37, .slice none 0 0] 39 (0, 0)) (by (with_reducible repeat (first | refine blk_drewN ?_ _ | refine blk_drew ?_ | refine blk_alloc ?_ _)); exact BK433.out) NB433_0.out (by simp)); have n2_ := Aside0.mk (KeepBut.blk hk (g' := gb441) (o := .cells #[.bool t437, .bool t438, .bool true, .bool t440] 59 (0, 0)) (by (with_reducible repeat (first | refine blk_drewN ?_ _ | refine blk_drew ?_ | refine blk_alloc ?_ _)); exact BK441.out) NB441_0.out (by simp)); have n3_ := Aside0.mk (KeepBut.trans (by repeat (first | (with_reducible first | exact HK.out | apply KeepBut.set_ | apply keep_drewN | apply keep_drew | apply keep_alloc | refine keep_far ?_ GW428.out _ | refine keep_far ?_ GW433.out _ | refine keep_far ?_ GW441.out _) | exact HK.out)) hk (.inl rfl)); have n4_ := Aside0.mk (hb); have n5_ := Aside0.mk (hi); clear BK428; clear BK433; clear BK441; clear HK; clear HB; clear HI0; have BK428 := n0_; have BK433 := n1_; have BK441 := n2_; have HK := n3_; have HB := n4_; have HI0 := n5_; clear n0_ n1_ n2_ n3_ n4_ n5_; (try clear hb); (try clear hb2); (try clear hk); (try clear hi); have hnb60 := NB433_428.out; have hnc60 := NB428_433.out; have hnb61 := NB433_441.out; have hnc61 := NB441_433.out; have hnb62 := NB433_0.out; have hnc62 := NB0_433.out; have hcz63_0 : w59.cell? ⟨gb433, 0, none⟩ = some (.int .i64 t429) := (blk_cell BK433.out 0).trans rfl; have hcz63_1 : w59.cell? ⟨gb433, 1, none⟩ = some (.int .i64 x434001_16) := (blk_cell BK433.out 1).trans rfl; have hcz63_2 : w59.cell? ⟨gb433, 2, none⟩ = some (.int .i64 0) := (blk_cell BK433.out 2).trans rfl; have hcz63_3 : w59.cell? ⟨gb433, 3, none⟩ = some (.int .u64 x434003_37) := (blk_cell BK433.out 3).trans rfl; have hcz63_4 : w59.cell? ⟨gb433, 4, none⟩ = some (.slice none 0 0) := (blk_cell BK433.out 4).trans rfl; have hfz63_0 := blk_frozen BK433.out 0; have hfz63_1 := blk_frozen BK433.out 1; have hfz63_2 := blk_frozen BK433.out 2; have hfz63_3 := blk_frozen BK433.out 3; have hfz63_4 := blk_frozen BK433.out 4))
                go_meet
                case rel => exact ⟨_, (t455), (t456), (t457), (t454), H', ⟨by have := HJ16.out; have := HJ37.out; first | omega | exact Nat.le_refl _⟩, ⟨by (with_reducible repeat (first | refine blk_drewN ?_ _ | refine blk_drew ?_ | refine blk_alloc ?_ _)); refine blk_far ?_ NB428_433.out _; (with_reducible repeat (first | refine blk_drewN ?_ _ | refine blk_drew ?_ | refine blk_alloc ?_ _)); exact BK428.out⟩, ⟨by (with_reducible repeat (first | refine blk_drewN ?_ _ | refine blk_drew ?_ | refine blk_alloc ?_ _)); refine blk_put (cs := #[.int .i64 t429, .int .i64 x434001_16, .int .i64 0, .int .u64 x434003_37, .slice none 0 0]) ?_ 2 _ rfl; (with_reducible repeat (first | refine blk_drewN ?_ _ | refine blk_drew ?_ | refine blk_alloc ?_ _)); exact BK433.out⟩, ⟨by (with_reducible repeat (first | refine blk_drewN ?_ _ | refine blk_drew ?_ | refine blk_alloc ?_ _)); refine blk_far ?_ NB441_433.out _; (with_reducible repeat (first | refine blk_drewN ?_ _ | refine blk_drew ?_ | refine blk_alloc ?_ _)); exact BK441.out⟩, ⟨by repeat (first | (with_reducible first | exact HI0.out | apply IsS69.alloc | apply IsS69.drewN | apply IsS69.drew | apply IsS69.set_1 | apply IsS69.set_2 | apply IsS69.set_3 | refine IsS69.far ?_ NB0_428.out _ | refine IsS69.far ?_ NB0_433.out _ | refine IsS69.far ?_ NB0_441.out _) | exact HI0.out)⟩, ⟨by repeat (first | (with_reducible first | exact HK.out | apply KeepBut.set_ | apply keep_drewN | apply keep_drew | apply keep_alloc | refine keep_far ?_ GW428.out _ | refine keep_far ?_ GW433.out _ | refine keep_far ?_ GW441.out _) | exact HK.out)⟩, ⟨by repeat (first | (with_reducible first | exact HB.out | apply below_alloc | apply pw_below_drewN | apply below_drew1 | refine below_set ?_ (IsS69.ge HI0.out) | refine below_set ?_ GE428.out | refine below_set ?_ GE433.out | refine below_set ?_ GE441.out) | exact HB.out)⟩⟩
              · replace c57 := Bool.eq_false_iff.mpr c57
                subst c57
                have H1 : (script_reader_op.j2 kj37 s0_0 x1001_37 x1002_37 x1003_37 t429 x434001_16 0 x434003_37 t437 t438 false t440) = some (r1, r2, r3, r4, r5, r6, r7, r8) := by rw [if_neg (show ¬ (false = true) by decide)] at H; exact H
                clear H
                have H := H1
                clear H1
                have H' := Aside0.mk H
                clear H
                go_wp2
                go_meet
                case rel => exact ⟨_, (x1001_37), (x1002_37), (x1003_37), (0), H', ⟨by have := HJ16.out; have := HJ37.out; first | omega | exact Nat.le_refl _⟩, ⟨by (with_reducible repeat (first | refine blk_drewN ?_ _ | refine blk_drew ?_ | refine blk_alloc ?_ _)); exact BK428.out⟩, ⟨by (with_reducible repeat (first | refine blk_drewN ?_ _ | refine blk_drew ?_ | refine blk_alloc ?_ _)); exact BK433.out⟩, ⟨by (with_reducible repeat (first | refine blk_drewN ?_ _ | refine blk_drew ?_ | refine blk_alloc ?_ _)); exact BK441.out⟩, ⟨by repeat (first | (with_reducible first | exact HI0.out | apply IsS69.alloc | apply IsS69.drewN | apply IsS69.drew | apply IsS69.set_1 | apply IsS69.set_2 | apply IsS69.set_3 | refine IsS69.far ?_ NB0_428.out _ | refine IsS69.far ?_ NB0_433.out _ | refine IsS69.far ?_ NB0_441.out _) | exact HI0.out)⟩, ⟨by repeat (first | (with_reducible first | exact HK.out | apply KeepBut.set_ | apply keep_drewN | apply keep_drew | apply keep_alloc | refine keep_far ?_ GW428.out _ | refine keep_far ?_ GW433.out _ | refine keep_far ?_ GW441.out _) | exact HK.out)⟩, ⟨by repeat (first | (with_reducible first | exact HB.out | apply below_alloc | apply pw_below_drewN | apply below_drew1 | refine below_set ?_ (IsS69.ge HI0.out) | refine below_set ?_ GE428.out | refine below_set ?_ GE433.out | refine below_set ?_ GE441.out) | exact HB.out)⟩⟩
            case rest =>
              clear HC52
              try clear c1
              try clear c2
              try clear p2
              try clear c3
              try clear c3b0
              try clear c4
              try clear c5
              try clear c6
              try clear c9
              try clear c10
              try clear c14
              try clear c22
              try clear c23
              try clear c27
              try clear c28
              try clear c29
              try clear c31
              try clear c34
              try clear c35
              try clear c36
              try clear c37
              try clear c39
              try clear c40
              try clear c41
              try clear c42
              try clear c43
              try clear c44
              try clear c48
              try clear c49
              try clear c50
              try clear c53
              try clear c54
              try clear c55
              try clear c57
              try clear c60
              try clear c61
              try clear c62
              try clear hcz11_0
              try clear hcz11_1
              try clear hcz11_2
              try clear hcz11_3
              try clear hcz11_4
              try clear hcz13_0
              try clear hcz13_1
              try clear hcz13_2
              try clear hcz13_3
              try clear hcz13_4
              try clear hcz15_0
              try clear hcz15_1
              try clear hcz15_2
              try clear hcz15_3
              try clear hcz15_4
              try clear hcz19_0
              try clear hcz19_1
              try clear hcz19_2
              try clear hcz19_3
              try clear hcz24_0
              try clear hcz24_1
              try clear hcz24_2
              try clear hcz24_3
              try clear hcz24_4
              try clear hcz30_0
              try clear hcz30_1
              try clear hcz30_2
              try clear hcz30_3
              try clear hcz37_0
              try clear hcz37_1
              try clear hcz37_2
              try clear hcz37_3
              try clear hcz37_4
              try clear hcz42_0
              try clear hcz42_1
              try clear hcz42_2
              try clear hcz42_3
              try clear hcz51_0
              try clear hcz51_1
              try clear hcz51_2
              try clear hcz51_3
              try clear hcz51_4
              try clear hcz56_0
              try clear hcz56_1
              try clear hcz56_2
              try clear hcz56_3
              try clear hcz63_0
              try clear hcz63_1
              try clear hcz63_2
              try clear hcz63_3
              try clear hcz63_4
              try clear hcz6_0
              try clear hcz6_1
              try clear hcz6_2
              try clear hcz6_3
              try clear hfz11_0
              try clear hfz11_1
              try clear hfz11_2
              try clear hfz11_3
              try clear hfz11_4
              try clear hfz13_0
              try clear hfz13_1
              try clear hfz13_2
              try clear hfz13_3
              try clear hfz13_4
              try clear hfz15_0
              try clear hfz15_1
              try clear hfz15_2
              try clear hfz15_3
              try clear hfz15_4
              try clear hfz19_1
              try clear hfz19_2
              try clear hfz19_3
              try clear hfz24_0
              try clear hfz24_1
              try clear hfz24_2
              try clear hfz24_3
              try clear hfz24_4
              try clear hfz30_0
              try clear hfz30_1
              try clear hfz30_2
              try clear hfz30_3
              try clear hfz37_0
              try clear hfz37_1
              try clear hfz37_2
              try clear hfz37_3
              try clear hfz37_4
              try clear hfz42_0
              try clear hfz42_1
              try clear hfz42_2
              try clear hfz42_3
              try clear hfz51_0
              try clear hfz51_1
              try clear hfz51_2
              try clear hfz51_3
              try clear hfz51_4
              try clear hfz56_0
              try clear hfz56_1
              try clear hfz56_2
              try clear hfz56_3
              try clear hfz63_0
              try clear hfz63_1
              try clear hfz63_2
              try clear hfz63_3
              try clear hfz63_4
              try clear hfz6_1
              try clear hfz6_2
              try clear hfz6_3
              try clear p2
              obtain ⟨kq, x1001_51, x1002_51, x1003_51, x434002_51, HA, HJ51, BK428, BK433, BK441, HI0, HK, HB⟩ := hcut
              cases kq with
              | zero => exact absurd HA.out (by simp [script_reader_op.j2])
              | succ kj51 =>
                have H := HA.out
                clear HA
                simp only [script_reader_op.j2] at H
                by_cases c64 : t440 = true
                · subst c64
                  have H1 : ((script_reader_number.f kj51 s0_0 x1001_51 x1002_51 x1003_51 1).bind fun bt458 => ((script_reader_some.f kj51 s0_0 bt458.2.1 bt458.2.2.1 bt458.2.2.2 bt458.1).bind fun bt462 => (some (t429, x434001_16, x434002_51, x434003_37, bt462.1, bt462.2.1, bt462.2.2.1, bt462.2.2.2)))) = some (r1, r2, r3, r4, r5, r6, r7, r8) := by rw [if_pos rfl] at H; exact H
                  clear H
                  have H := H1
                  clear H1
                  replace H := Option.bind_eq_some_iff.mp H
                  obtain ⟨⟨t458, t459, t460, t461⟩, A650, H⟩ := H
                  replace H : ((script_reader_some.f kj51 s0_0 t459 t460 t461 t458).bind fun bt462 => (some (t429, x434001_16, x434002_51, x434003_37, bt462.1, bt462.2.1, bt462.2.2.1, bt462.2.2.2))) = some (r1, r2, r3, r4, r5, r6, r7, r8) := H
                  have A65 := Aside0.mk A650
                  clear A650
                  replace H := Option.bind_eq_some_iff.mp H
                  obtain ⟨⟨t462, t465, t466, t467⟩, A660, H⟩ := H
                  replace H : (some (t429, x434001_16, x434002_51, x434003_37, t462, t465, t466, t467)) = some (r1, r2, r3, r4, r5, r6, r7, r8) := H
                  have A66 := Aside0.mk A660
                  clear A660
                  simp only [Option.some.injEq, Prod.mk.injEq] at H
                  obtain ⟨rfl, rfl, rfl, rfl, rfl, rfl, rfl, rfl⟩ := H
                  have hnb67 := NB441_428.out
                  have hnc67 := NB428_441.out
                  have hnb68 := NB441_433.out
                  have hnc68 := NB433_441.out
                  have hnb69 := NB441_0.out
                  have hnc69 := NB0_441.out
                  have hcz70_0 : wc.cell? ⟨gb441, 0, none⟩ = some (.bool t437) := (blk_cell BK441.out 0).trans rfl
                  have hcz70_1 : wc.cell? ⟨gb441, 1, none⟩ = some (.bool t438) := (blk_cell BK441.out 1).trans rfl
                  have hcz70_2 : wc.cell? ⟨gb441, 2, none⟩ = some (.bool t439) := (blk_cell BK441.out 2).trans rfl
                  have hcz70_3 : wc.cell? ⟨gb441, 3, none⟩ = some (.bool true) := (blk_cell BK441.out 3).trans rfl
                  have hfz70_0 := blk_frozen BK441.out 0
                  have hfz70_1 := blk_frozen BK441.out 1
                  have hfz70_2 := blk_frozen BK441.out 2
                  have hfz70_3 := blk_frozen BK441.out 3
                  go_wp2_with (first | ((with_reducible refine gate_callee (f := 42) rfl ?_); refine goesL_ (some 46) rfl rfl Try.func42 (by kernel_rfl) rfl #[.pointer (some ⟨g, 0, none⟩), .int .i64 1] rfl (by (try simp only [List.map_toArray, List.map_cons, List.map_nil]); first | done | rfl | (simp only [List.length_drop, List.length_take]; rfl)) ?_; (with_reducible refine (script_reader_number.calls kj51 g s0_0 x1001_51 x1002_51 x1003_51 1 t458 t459 t460 t461 w0 _ ?side1 ?side2 A65.out).mono ?_); (case side1 => repeat (first | (with_reducible first | exact HI0.out | apply IsS69.alloc | apply IsS69.drewN | apply IsS69.drew | apply IsS69.set_1 | apply IsS69.set_2 | apply IsS69.set_3 | refine IsS69.far ?_ NB0_428.out _ | refine IsS69.far ?_ NB0_433.out _ | refine IsS69.far ?_ NB0_441.out _) | exact HI0.out)); (case side2 => repeat (first | (with_reducible first | exact HB.out | apply below_alloc | apply pw_below_drewN | apply below_drew1 | refine below_set ?_ (IsS69.ge HI0.out) | refine below_set ?_ GE428.out | refine below_set ?_ GE433.out | refine below_set ?_ GE441.out) | exact HB.out)); rintro e w71 ⟨rfl, hi, hb, hk⟩; refine ⟨_, rfl, ?_⟩; have n0_ := Aside0.mk (KeepBut.blk hk (g' := gb428) (o := .cells #[.int .i64 0, .int .i64 0, .int .i64 0, .int .u64 0, .slice none 0 0] 39 (0, 0)) (by (with_reducible repeat (first | refine blk_drewN ?_ _ | refine blk_drew ?_ | refine blk_alloc ?_ _)); exact BK428.out) NB428_0.out (by simp)); have n1_ := Aside0.mk (KeepBut.blk hk (g' := gb433) (o := .cells #[.int .i64 t429, .int .i64 x434001_16, .int .i64 x434002_51, .int .u64 x434003_37, .slice none 0 0] 39 (0, 0)) (by (with_reducible repeat (first | refine blk_drewN ?_ _ | refine blk_drew ?_ | refine blk_alloc ?_ _)); exact BK433.out) NB433_0.out (by simp)); have n2_ := Aside0.mk (KeepBut.blk hk (g' := gb441) (o := .cells #[.bool t437, .bool t438, .bool t439, .bool true] 59 (0, 0)) (by (with_reducible repeat (first | refine blk_drewN ?_ _ | refine blk_drew ?_ | refine blk_alloc ?_ _)); exact BK441.out) NB441_0.out (by simp)); have n3_ := Aside0.mk (KeepBut.trans (by repeat (first | (with_reducible first | exact HK.out | apply KeepBut.set_ | apply keep_drewN | apply keep_drew | apply keep_alloc | refine keep_far ?_ GW428.out _ | refine keep_far ?_ GW433.out _ | refine keep_far ?_ GW441.out _) | exact HK.out)) hk (.inl rfl)); have n4_ := Aside0.mk (hb); have n5_ := Aside0.mk (hi); clear BK428; clear BK433; clear BK441; clear HK; clear HB; clear HI0; have BK428 := n0_; have BK433 := n1_; have BK441 := n2_; have HK := n3_; have HB := n4_; have HI0 := n5_; clear n0_ n1_ n2_ n3_ n4_ n5_; (try clear hb); (try clear hb2); (try clear hk); (try clear hi)) | ((with_reducible refine gate_callee (f := 43) rfl ?_); refine goesL_ (some 47) rfl rfl Try.func43 (by kernel_rfl) rfl #[.pointer (some ⟨g, 0, none⟩), .int .i64 t458] rfl (by (try simp only [List.map_toArray, List.map_cons, List.map_nil]); first | done | rfl | (simp only [List.length_drop, List.length_take]; rfl)) ?_; (with_reducible refine (script_reader_some.calls kj51 g s0_0 t459 t460 t461 t458 t462 t465 t466 t467 w0 _ ?side1 ?side2 A66.out).mono ?_); (case side1 => repeat (first | (with_reducible first | exact HI0.out | apply IsS69.alloc | apply IsS69.drewN | apply IsS69.drew | apply IsS69.set_1 | apply IsS69.set_2 | apply IsS69.set_3 | refine IsS69.far ?_ NB0_428.out _ | refine IsS69.far ?_ NB0_433.out _ | refine IsS69.far ?_ NB0_441.out _) | exact HI0.out)); (case side2 => repeat (first | (with_reducible first | exact HB.out | apply below_alloc | apply pw_below_drewN | apply below_drew1 | refine below_set ?_ (IsS69.ge HI0.out) | refine below_set ?_ GE428.out | refine below_set ?_ GE433.out | refine below_set ?_ GE441.out) | exact HB.out)); rintro e w72 ⟨v463, rfl, ho0, hi, hb, hk⟩; refine ⟨_, rfl, ?_⟩; have n0_ := Aside0.mk (KeepBut.blk hk (g' := gb428) (o := .cells #[.int .i64 0, .int .i64 0, .int .i64 0, .int .u64 0, .slice none 0 0] 39 (0, 0)) (by (with_reducible repeat (first | refine blk_drewN ?_ _ | refine blk_drew ?_ | refine blk_alloc ?_ _)); exact BK428.out) NB428_0.out (by simp)); have n1_ := Aside0.mk (KeepBut.blk hk (g' := gb433) (o := .cells #[.int .i64 t429, .int .i64 x434001_16, .int .i64 x434002_51, .int .u64 x434003_37, .slice none 0 0] 39 (0, 0)) (by (with_reducible repeat (first | refine blk_drewN ?_ _ | refine blk_drew ?_ | refine blk_alloc ?_ _)); exact BK433.out) NB433_0.out (by simp)); have n2_ := Aside0.mk (KeepBut.blk hk (g' := gb441) (o := .cells #[.bool t437, .bool t438, .bool t439, .bool true] 59 (0, 0)) (by (with_reducible repeat (first | refine blk_drewN ?_ _ | refine blk_drew ?_ | refine blk_alloc ?_ _)); exact BK441.out) NB441_0.out (by simp)); have n3_ := Aside0.mk (Kd.R_lower ho0 (keep_size (w := w) (g := g) (row := none) (by repeat (first | (with_reducible first | exact HK.out | apply KeepBut.set_ | apply keep_drewN | apply keep_drew | apply keep_alloc | refine keep_far ?_ GW428.out _ | refine keep_far ?_ GW433.out _ | refine keep_far ?_ GW441.out _) | exact HK.out)))); have n4_ := Aside0.mk (KeepBut.trans (by repeat (first | (with_reducible first | exact HK.out | apply KeepBut.set_ | apply keep_drewN | apply keep_drew | apply keep_alloc | refine keep_far ?_ GW428.out _ | refine keep_far ?_ GW433.out _ | refine keep_far ?_ GW441.out _) | exact HK.out)) hk (.inl rfl)); have n5_ := Aside0.mk (hb); have n6_ := Aside0.mk (hi); clear BK428; clear BK433; clear BK441; clear HK; clear HB; clear HI0; have BK428 := n0_; have BK433 := n1_; have BK441 := n2_; have HO464 := n3_; have HK := n4_; have HB := n5_; have HI0 := n6_; clear n0_ n1_ n2_ n3_ n4_ n5_ n6_; (try clear hb); (try clear hb2); (try clear hk); (try clear hi); (try clear ho0); obtain ⟨Ao73, co73, eo73⟩ := Kd.R_slice HO464.out; subst eo73; have hnb74 := NB433_428.out; have hnc74 := NB428_433.out; have hnb75 := NB433_0.out; have hnc75 := NB0_433.out; have hcz76_0 : w72.cell? ⟨gb433, 0, none⟩ = some (.int .i64 t429) := (blk_cell BK433.out 0).trans rfl; have hcz76_1 : w72.cell? ⟨gb433, 1, none⟩ = some (.int .i64 x434001_16) := (blk_cell BK433.out 1).trans rfl; have hcz76_2 : w72.cell? ⟨gb433, 2, none⟩ = some (.int .i64 x434002_51) := (blk_cell BK433.out 2).trans rfl; have hcz76_3 : w72.cell? ⟨gb433, 3, none⟩ = some (.int .u64 x434003_37) := (blk_cell BK433.out 3).trans rfl; have hcz76_4 : w72.cell? ⟨gb433, 4, none⟩ = some (.slice none 0 0) := (blk_cell BK433.out 4).trans rfl; have hfz76_0 := blk_frozen BK433.out 0; have hfz76_1 := blk_frozen BK433.out 1; have hfz76_2 := blk_frozen BK433.out 2; have hfz76_3 := blk_frozen BK433.out 3; have hfz76_4 := blk_frozen BK433.out 4; have hnb77 := NB428_0.out; have hnc77 := NB0_428.out; have hcz78_0 : w72.cell? ⟨gb428, 0, none⟩ = some (.int .i64 0) := (blk_cell BK428.out 0).trans rfl; have hcz78_1 : w72.cell? ⟨gb428, 1, none⟩ = some (.int .i64 0) := (blk_cell BK428.out 1).trans rfl; have hcz78_2 : w72.cell? ⟨gb428, 2, none⟩ = some (.int .i64 0) := (blk_cell BK428.out 2).trans rfl; have hcz78_3 : w72.cell? ⟨gb428, 3, none⟩ = some (.int .u64 0) := (blk_cell BK428.out 3).trans rfl; have hcz78_4 : w72.cell? ⟨gb428, 4, none⟩ = some (.slice none 0 0) := (blk_cell BK428.out 4).trans rfl; have hfz78_0 := blk_frozen BK428.out 0; have hfz78_1 := blk_frozen BK428.out 1; have hfz78_2 := blk_frozen BK428.out 2; have hfz78_3 := blk_frozen BK428.out 3; have hfz78_4 := blk_frozen BK428.out 4))
                  refine bodyPost_ret (results_cell_row rfl _ _ gb428 39 #[.int .i64 t429, .int .i64 x434001_16, .int .i64 x434002_51, .int .u64 x434003_37, .slice Ao73 t462.length co73] (0, 0) _ rfl (by (with_reducible repeat (first | refine blk_drewN ?_ _ | refine blk_drew ?_ | refine blk_alloc ?_ _)); refine blk_put (cs := #[.int .i64 t429, .int .i64 x434001_16, .int .i64 x434002_51, .int .u64 x434003_37, .slice none 0 0]) ?_ 4 _ rfl; (with_reducible repeat (first | refine blk_drewN ?_ _ | refine blk_drew ?_ | refine blk_alloc ?_ _)); refine blk_put (cs := #[.int .i64 t429, .int .i64 x434001_16, .int .i64 x434002_51, .int .u64 0, .slice none 0 0]) ?_ 3 _ rfl; (with_reducible repeat (first | refine blk_drewN ?_ _ | refine blk_drew ?_ | refine blk_alloc ?_ _)); refine blk_put (cs := #[.int .i64 t429, .int .i64 x434001_16, .int .i64 0, .int .u64 0, .slice none 0 0]) ?_ 2 _ rfl; (with_reducible repeat (first | refine blk_drewN ?_ _ | refine blk_drew ?_ | refine blk_alloc ?_ _)); refine blk_put (cs := #[.int .i64 t429, .int .i64 0, .int .i64 0, .int .u64 0, .slice none 0 0]) ?_ 1 _ rfl; (with_reducible repeat (first | refine blk_drewN ?_ _ | refine blk_drew ?_ | refine blk_alloc ?_ _)); refine blk_put (cs := #[.int .i64 0, .int .i64 0, .int .i64 0, .int .u64 0, .slice none 0 0]) ?_ 0 _ rfl; (with_reducible repeat (first | refine blk_drewN ?_ _ | refine blk_drew ?_ | refine blk_alloc ?_ _)); refine blk_far ?_ NB428_433.out _; (with_reducible repeat (first | refine blk_drewN ?_ _ | refine blk_drew ?_ | refine blk_alloc ?_ _)); exact BK428.out) Try.underlying39 rfl (by kernel_rfl)) rfl ?_
                  exact ⟨_, by first | rfl | (simp [errW_none, errW_some] <;> rfl) | (simp [*, errW_none, errW_some] <;> rfl), by (with_reducible repeat (first | apply Kd.R_alloc | apply Kd.R_drewN | apply Kd.R_drew)); exact Kd.R_mono (Kd.R_far (p := ⟨gb428, 4, none⟩) (Kd.R_far (p := ⟨gb428, 3, none⟩) (Kd.R_far (p := ⟨gb428, 2, none⟩) (Kd.R_far (p := ⟨gb428, 1, none⟩) (Kd.R_far (p := ⟨gb428, 0, none⟩) (Kd.R_far (p := ⟨gb433, 4, none⟩) (Kd.R_types (Kd.R_types HO464.out BK433.out (by decide)) BK428.out (by decide)) (fun _ hk => hk.1.2) (.slice Ao73 t462.length co73)) (fun _ hk => hk.2) (.int .i64 t429)) (fun _ hk => hk.2) (.int .i64 x434001_16)) (fun _ hk => hk.2) (.int .i64 x434002_51)) (fun _ hk => hk.2) (.int .u64 x434003_37)) (fun _ hk => hk.2) (.slice Ao73 t462.length co73)) (fun _ hk => trivial), by repeat (first | (with_reducible first | exact HI0.out | apply IsS69.alloc | apply IsS69.drewN | apply IsS69.drew | apply IsS69.set_1 | apply IsS69.set_2 | apply IsS69.set_3 | refine IsS69.far ?_ NB0_428.out _ | refine IsS69.far ?_ NB0_433.out _ | refine IsS69.far ?_ NB0_441.out _) | exact HI0.out), by repeat (first | (with_reducible first | exact HB.out | apply below_alloc | apply pw_below_drewN | apply below_drew1 | refine below_set ?_ (IsS69.ge HI0.out) | refine below_set ?_ GE428.out | refine below_set ?_ GE433.out | refine below_set ?_ GE441.out) | exact HB.out), by repeat (first | (with_reducible first | exact HK.out | apply KeepBut.set_ | apply keep_drewN | apply keep_drew | apply keep_alloc | refine keep_far ?_ GW428.out _ | refine keep_far ?_ GW433.out _ | refine keep_far ?_ GW441.out _) | exact HK.out)⟩
                · replace c64 := Bool.eq_false_iff.mpr c64
                  subst c64
                  have H1 : (some (t429, x434001_16, x434002_51, x434003_37, ([] : List Int), x1001_51, x1002_51, x1003_51)) = some (r1, r2, r3, r4, r5, r6, r7, r8) := by rw [if_neg (show ¬ (false = true) by decide)] at H; exact H
                  clear H
                  have H := H1
                  clear H1
                  simp only [Option.some.injEq, Prod.mk.injEq] at H
                  obtain ⟨rfl, rfl, rfl, rfl, rfl, rfl, rfl, rfl⟩ := H
                  have hnb79 := NB441_428.out
                  have hnc79 := NB428_441.out
                  have hnb80 := NB441_433.out
                  have hnc80 := NB433_441.out
                  have hnb81 := NB441_0.out
                  have hnc81 := NB0_441.out
                  have hcz82_0 : wc.cell? ⟨gb441, 0, none⟩ = some (.bool t437) := (blk_cell BK441.out 0).trans rfl
                  have hcz82_1 : wc.cell? ⟨gb441, 1, none⟩ = some (.bool t438) := (blk_cell BK441.out 1).trans rfl
                  have hcz82_2 : wc.cell? ⟨gb441, 2, none⟩ = some (.bool t439) := (blk_cell BK441.out 2).trans rfl
                  have hcz82_3 : wc.cell? ⟨gb441, 3, none⟩ = some (.bool false) := (blk_cell BK441.out 3).trans rfl
                  have hfz82_0 := blk_frozen BK441.out 0
                  have hfz82_1 := blk_frozen BK441.out 1
                  have hfz82_2 := blk_frozen BK441.out 2
                  have hfz82_3 := blk_frozen BK441.out 3
                  have hnb83 := NB433_428.out
                  have hnc83 := NB428_433.out
                  have hnb84 := NB433_0.out
                  have hnc84 := NB0_433.out
                  have hcz85_0 : wc.cell? ⟨gb433, 0, none⟩ = some (.int .i64 t429) := (blk_cell BK433.out 0).trans rfl
                  have hcz85_1 : wc.cell? ⟨gb433, 1, none⟩ = some (.int .i64 x434001_16) := (blk_cell BK433.out 1).trans rfl
                  have hcz85_2 : wc.cell? ⟨gb433, 2, none⟩ = some (.int .i64 x434002_51) := (blk_cell BK433.out 2).trans rfl
                  have hcz85_3 : wc.cell? ⟨gb433, 3, none⟩ = some (.int .u64 x434003_37) := (blk_cell BK433.out 3).trans rfl
                  have hcz85_4 : wc.cell? ⟨gb433, 4, none⟩ = some (.slice none 0 0) := (blk_cell BK433.out 4).trans rfl
                  have hfz85_0 := blk_frozen BK433.out 0
                  have hfz85_1 := blk_frozen BK433.out 1
                  have hfz85_2 := blk_frozen BK433.out 2
                  have hfz85_3 := blk_frozen BK433.out 3
                  have hfz85_4 := blk_frozen BK433.out 4
                  have hnb86 := NB428_0.out
                  have hnc86 := NB0_428.out
                  have hcz87_0 : wc.cell? ⟨gb428, 0, none⟩ = some (.int .i64 0) := (blk_cell BK428.out 0).trans rfl
                  have hcz87_1 : wc.cell? ⟨gb428, 1, none⟩ = some (.int .i64 0) := (blk_cell BK428.out 1).trans rfl
                  have hcz87_2 : wc.cell? ⟨gb428, 2, none⟩ = some (.int .i64 0) := (blk_cell BK428.out 2).trans rfl
                  have hcz87_3 : wc.cell? ⟨gb428, 3, none⟩ = some (.int .u64 0) := (blk_cell BK428.out 3).trans rfl
                  have hcz87_4 : wc.cell? ⟨gb428, 4, none⟩ = some (.slice none 0 0) := (blk_cell BK428.out 4).trans rfl
                  have hfz87_0 := blk_frozen BK428.out 0
                  have hfz87_1 := blk_frozen BK428.out 1
                  have hfz87_2 := blk_frozen BK428.out 2
                  have hfz87_3 := blk_frozen BK428.out 3
                  have hfz87_4 := blk_frozen BK428.out 4
                  go_wp2
                  refine bodyPost_ret (results_cell_row rfl _ _ gb428 39 #[.int .i64 t429, .int .i64 x434001_16, .int .i64 x434002_51, .int .u64 x434003_37, .slice none 0 0] (0, 0) _ rfl (by (with_reducible repeat (first | refine blk_drewN ?_ _ | refine blk_drew ?_ | refine blk_alloc ?_ _)); refine blk_put (cs := #[.int .i64 t429, .int .i64 x434001_16, .int .i64 x434002_51, .int .u64 x434003_37, .slice none 0 0]) ?_ 4 _ rfl; (with_reducible repeat (first | refine blk_drewN ?_ _ | refine blk_drew ?_ | refine blk_alloc ?_ _)); refine blk_put (cs := #[.int .i64 t429, .int .i64 x434001_16, .int .i64 x434002_51, .int .u64 0, .slice none 0 0]) ?_ 3 _ rfl; (with_reducible repeat (first | refine blk_drewN ?_ _ | refine blk_drew ?_ | refine blk_alloc ?_ _)); refine blk_put (cs := #[.int .i64 t429, .int .i64 x434001_16, .int .i64 0, .int .u64 0, .slice none 0 0]) ?_ 2 _ rfl; (with_reducible repeat (first | refine blk_drewN ?_ _ | refine blk_drew ?_ | refine blk_alloc ?_ _)); refine blk_put (cs := #[.int .i64 t429, .int .i64 0, .int .i64 0, .int .u64 0, .slice none 0 0]) ?_ 1 _ rfl; (with_reducible repeat (first | refine blk_drewN ?_ _ | refine blk_drew ?_ | refine blk_alloc ?_ _)); refine blk_put (cs := #[.int .i64 0, .int .i64 0, .int .i64 0, .int .u64 0, .slice none 0 0]) ?_ 0 _ rfl; (with_reducible repeat (first | refine blk_drewN ?_ _ | refine blk_drew ?_ | refine blk_alloc ?_ _)); exact BK428.out) Try.underlying39 rfl (by kernel_rfl)) rfl ?_
                  exact ⟨_, by first | rfl | (simp [errW_none, errW_some] <;> rfl) | (simp [*, errW_none, errW_some] <;> rfl), by first | exact Kd.R_nil _ _ _ _ _ | exact Kd.N_nil _ _ _ _ _ | exact Kd.V_nil _ _ _ _ _ | exact Kd.Q_nil _ _ _ _ _ | exact Kd.S_nil _ _ _ _ _, by repeat (first | (with_reducible first | exact HI0.out | apply IsS69.alloc | apply IsS69.drewN | apply IsS69.drew | apply IsS69.set_1 | apply IsS69.set_2 | apply IsS69.set_3 | refine IsS69.far ?_ NB0_428.out _ | refine IsS69.far ?_ NB0_433.out _ | refine IsS69.far ?_ NB0_441.out _) | exact HI0.out), by repeat (first | (with_reducible first | exact HB.out | apply below_alloc | apply pw_below_drewN | apply below_drew1 | refine below_set ?_ (IsS69.ge HI0.out) | refine below_set ?_ GE428.out | refine below_set ?_ GE433.out | refine below_set ?_ GE441.out) | exact HB.out), by repeat (first | (with_reducible first | exact HK.out | apply KeepBut.set_ | apply keep_drewN | apply keep_drew | apply keep_alloc | refine keep_far ?_ GW428.out _ | refine keep_far ?_ GW433.out _ | refine keep_far ?_ GW441.out _) | exact HK.out)⟩
end Go.Proofs.Ytldoaddeaiappaa.R
end
