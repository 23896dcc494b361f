-- written for this claim by a program (a patched print)
import Derived.Test.YtldoaddeaiappaaRx0
import Derived.Test.YtldoaddeaiappaaRx6
import Derived.Test.YtldoaddeaiappaaRx7
namespace Go.Proofs.Ytldoaddeaiappaa.R
open Go.RowKit Go.Proofs.YtldoaddeaiappaaW.PrintWords Go.Proofs.YtldoaddeaiappaaW.PrintLast Go.Proofs.YtldoaddeaiappaaW.PrintMore
attribute [local go_sem] max2_int min2_int max_two min_two max_three min_three max_four min_four   -- for this text's walks alone
set_option linter.unusedVariables false
set_option linter.unusedSimpArgs false

/-! ### gunnyref39_Put: function 15 -/
mutual
def gunnyref39_Put.l0 : Nat → List Int → Int → Int → Int → Int → Int → List Bool → List (S39) → Option (List Int)
  | 0, _, _, _, _, _, _, _, _ => none
  | k + 1, x4, x5, x231000, x231001, x231002, x231003, x231004, x231005 => if x5 < (x231004.length : Int) then (gunnyref39_Put.l1 k x4 x5 0 7 x231000 x231001 x231002 x231003 x231004 x231005) else (gunnyref39_Put.l2 k x4 0 x231000 x231001 x231002 x231003 x231004 x231005)
def gunnyref39_Put.l1 : Nat → List Int → Int → Int → Int → Int → Int → Int → Int → List Bool → List (S39) → Option (List Int)
  | 0, _, _, _, _, _, _, _, _, _, _ => none
  | k + 1, x4, x5, x6, x7, x231000, x231001, x231002, x231003, x231004, x231005 => if x7 ≥ 0 then (if (wrap64 (x5 + x7)) < (x231004.length : Int) then (if 0 ≤ (wrap64 (x5 + x7)) then (if rdOf false x231004 (wrap64 (x5 + x7)) = true then (gunnyref39_Put.l1 k x4 x5 (wrap64 ((wrap64 (2 * x6)) + 1)) (wrap64 (x7 - 1)) x231000 x231001 x231002 x231003 x231004 x231005) else (gunnyref39_Put.l1 k x4 x5 (wrap64 (2 * x6)) (wrap64 (x7 - 1)) x231000 x231001 x231002 x231003 x231004 x231005)) else (none)) else (gunnyref39_Put.l1 k x4 x5 (wrap64 (2 * x6)) (wrap64 (x7 - 1)) x231000 x231001 x231002 x231003 x231004 x231005)) else (if x4.length < 140737488355328 then (gunnyref39_Put.l0 k (x4 ++ [(x6) % 256]) (wrap64 (x5 + 8)) x231000 x231001 x231002 x231003 x231004 x231005) else (none))
def gunnyref39_Put.l2 : Nat → List Int → Int → Int → Int → Int → Int → List Bool → List (S39) → Option (List Int)
  | 0, _, _, _, _, _, _, _, _ => none
  | k + 1, x4, x8, x231000, x231001, x231002, x231003, x231004, x231005 => if x8 < (x231005.length : Int) then (if 0 ≤ x8 then ((gunnyref39_Has.f k ((rd_T39 x231005 x8).f0)).bind fun bt241 => (if x4.length < 140737488355328 then ((some (x4 ++ [((rd_T39 x231005 x8).f0) % 256] : List Int)).bind fun y246 => (if bt241.1 = true then (if y246.length < 140737488355328 then (gunnyref39_Put.j3 k (y246 ++ [((rd_T39 x231005 x8).f1) % 256]) x8 x231000 x231001 x231002 x231003 x231004 x231005 ((rd_T39 x231005 x8).f0) ((rd_T39 x231005 x8).f1) ((rd_T39 x231005 x8).f2) ((rd_T39 x231005 x8).f3) ((rd_T39 x231005 x8).f4) bt241.1 bt241.2.1 bt241.2.2.1 bt241.2.2.2) else (none)) else (gunnyref39_Put.j3 k y246 x8 x231000 x231001 x231002 x231003 x231004 x231005 ((rd_T39 x231005 x8).f0) ((rd_T39 x231005 x8).f1) ((rd_T39 x231005 x8).f2) ((rd_T39 x231005 x8).f3) ((rd_T39 x231005 x8).f4) bt241.1 bt241.2.1 bt241.2.2.1 bt241.2.2.2))) else (none))) else (none)) else (some x4)
def gunnyref39_Put.j3 : Nat → List Int → Int → Int → Int → Int → Int → List Bool → List (S39) → Int → Int → Int → Int → List Int → Bool → Bool → Bool → Bool → Option (List Int)
  | 0, _, _, _, _, _, _, _, _, _, _, _, _, _, _, _, _, _ => none
  | k + 1, x4, x8, x231000, x231001, x231002, x231003, x231004, x231005, x241000, x241001, x241002, x241003, x241004, x246000, x246001, x246002, x246003 => if x246001 = true then ((gunnyref01_Put.f k 8 x241003).bind fun t252 => (if x4.length + t252.length < 140737488355328 then (gunnyref39_Put.j4 k (x4 ++ t252) x8 x231000 x231001 x231002 x231003 x231004 x231005 x241000 x241001 x241002 x241003 x241004 x246000 x246001 x246002 x246003) else (none))) else (gunnyref39_Put.j4 k x4 x8 x231000 x231001 x231002 x231003 x231004 x231005 x241000 x241001 x241002 x241003 x241004 x246000 x246001 x246002 x246003)
def gunnyref39_Put.j4 : Nat → List Int → Int → Int → Int → Int → Int → List Bool → List (S39) → Int → Int → Int → Int → List Int → Bool → Bool → Bool → Bool → Option (List Int)
  | 0, _, _, _, _, _, _, _, _, _, _, _, _, _, _, _, _, _ => none
  | k + 1, x4, x8, x231000, x231001, x231002, x231003, x231004, x231005, x241000, x241001, x241002, x241003, x241004, x246000, x246001, x246002, x246003 => if x246002 = true then (if x4.length < 140737488355328 then ((some (x4 ++ [(x241002) % 256] : List Int)).bind fun y258 => (if x246003 = true then (if y258.length < 140737488355328 then ((some (y258 ++ [((x241004.length : Int)) % 256] : List Int)).bind fun y261 => (if y261.length + x241004.length < 140737488355328 then (gunnyref39_Put.l2 k (y261 ++ x241004) (wrap64 (x8 + 1)) x231000 x231001 x231002 x231003 x231004 x231005) else (none))) else (none)) else (gunnyref39_Put.l2 k y258 (wrap64 (x8 + 1)) x231000 x231001 x231002 x231003 x231004 x231005))) else (none)) else (if x246003 = true then (if x4.length < 140737488355328 then ((some (x4 ++ [((x241004.length : Int)) % 256] : List Int)).bind fun y267 => (if y267.length + x241004.length < 140737488355328 then (gunnyref39_Put.l2 k (y267 ++ x241004) (wrap64 (x8 + 1)) x231000 x231001 x231002 x231003 x231004 x231005) else (none))) else (none)) else (gunnyref39_Put.l2 k x4 (wrap64 (x8 + 1)) x231000 x231001 x231002 x231003 x231004 x231005))
end
def gunnyref39_Put.f (k : Nat) (a0_0 : Int) (a0_1 : Int) (a0_2 : Int) (a0_3 : Int) (l0_4 : List Bool) (l0_5 : List (S39)) : Option (List Int) := gunnyref39_Put.l0 k (([71, (a0_0) % 256, (a0_1) % 256, (a0_2) % 256, (a0_3) % 256, (l0_4.length : Int) % 256, (wrap64 (Int.tdiv (l0_4.length : Int) 256)) % 256] : List Int)) 0 a0_0 a0_1 a0_2 a0_3 l0_4 l0_5
theorem gunnyref39_Put.mono_l : ∀ k, (∀ y0 y1 y2 y3 y4 y5 y6 y7, LeO (gunnyref39_Put.l0 k y0 y1 y2 y3 y4 y5 y6 y7) (gunnyref39_Put.l0 (k + 1) y0 y1 y2 y3 y4 y5 y6 y7)) ∧ (∀ y0 y1 y2 y3 y4 y5 y6 y7 y8 y9, LeO (gunnyref39_Put.l1 k y0 y1 y2 y3 y4 y5 y6 y7 y8 y9) (gunnyref39_Put.l1 (k + 1) y0 y1 y2 y3 y4 y5 y6 y7 y8 y9)) ∧ (∀ y0 y1 y2 y3 y4 y5 y6 y7, LeO (gunnyref39_Put.l2 k y0 y1 y2 y3 y4 y5 y6 y7) (gunnyref39_Put.l2 (k + 1) y0 y1 y2 y3 y4 y5 y6 y7)) ∧ (∀ y0 y1 y2 y3 y4 y5 y6 y7 y8 y9 y10 y11 y12 y13 y14 y15 y16, LeO (gunnyref39_Put.j3 k y0 y1 y2 y3 y4 y5 y6 y7 y8 y9 y10 y11 y12 y13 y14 y15 y16) (gunnyref39_Put.j3 (k + 1) y0 y1 y2 y3 y4 y5 y6 y7 y8 y9 y10 y11 y12 y13 y14 y15 y16)) ∧ (∀ y0 y1 y2 y3 y4 y5 y6 y7 y8 y9 y10 y11 y12 y13 y14 y15 y16, LeO (gunnyref39_Put.j4 k y0 y1 y2 y3 y4 y5 y6 y7 y8 y9 y10 y11 y12 y13 y14 y15 y16) (gunnyref39_Put.j4 (k + 1) y0 y1 y2 y3 y4 y5 y6 y7 y8 y9 y10 y11 y12 y13 y14 y15 y16))
  | 0 => ⟨fun _ _ _ _ _ _ _ _ r h => by simp [gunnyref39_Put.l0] at h, fun _ _ _ _ _ _ _ _ _ _ r h => by simp [gunnyref39_Put.l1] at h, fun _ _ _ _ _ _ _ _ r h => by simp [gunnyref39_Put.l2] at h, fun _ _ _ _ _ _ _ _ _ _ _ _ _ _ _ _ _ r h => by simp [gunnyref39_Put.j3] at h, fun _ _ _ _ _ _ _ _ _ _ _ _ _ _ _ _ _ r h => by simp [gunnyref39_Put.j4] at h⟩
  | k + 1 => by
    obtain ⟨ih0, ih1, ih2, ih3, ih4⟩ := gunnyref39_Put.mono_l k
    refine ⟨?_, ?_, ?_, ?_, ?_⟩
    · intro y0 y1 y2 y3 y4 y5 y6 y7
      unfold gunnyref39_Put.l0
      repeat' first
      | (with_reducible exact ih0 _ _ _ _ _ _ _ _)
      | (with_reducible exact ih1 _ _ _ _ _ _ _ _ _ _)
      | (with_reducible exact ih2 _ _ _ _ _ _ _ _)
      | (with_reducible exact ih3 _ _ _ _ _ _ _ _ _ _ _ _ _ _ _ _ _)
      | (with_reducible exact ih4 _ _ _ _ _ _ _ _ _ _ _ _ _ _ _ _ _)
      | (with_reducible exact gunnyref01_Put.mono _ _ _)
      | (with_reducible exact gunnyref39_Has.mono _ _)
      | (with_reducible exact LeO.refl _)
      | (with_reducible exact LeO.none _)
      | (with_reducible refine LeO.ite ?_ ?_)
      | (with_reducible refine LeO.bind ?_ (fun _ => ?_))
      | exact ih0 _ _ _ _ _ _ _ _
      | exact ih1 _ _ _ _ _ _ _ _ _ _
      | exact ih2 _ _ _ _ _ _ _ _
      | exact ih3 _ _ _ _ _ _ _ _ _ _ _ _ _ _ _ _ _
      | exact ih4 _ _ _ _ _ _ _ _ _ _ _ _ _ _ _ _ _
      | exact gunnyref01_Put.mono _ _ _
      | exact gunnyref39_Has.mono _ _
      | exact LeO.none _
      | refine LeO.ite ?_ ?_
      | refine LeO.bind ?_ (fun _ => ?_)
    · intro y0 y1 y2 y3 y4 y5 y6 y7 y8 y9
      unfold gunnyref39_Put.l1
      repeat' first
      | (with_reducible exact ih0 _ _ _ _ _ _ _ _)
      | (with_reducible exact ih1 _ _ _ _ _ _ _ _ _ _)
      | (with_reducible exact ih2 _ _ _ _ _ _ _ _)
      | (with_reducible exact ih3 _ _ _ _ _ _ _ _ _ _ _ _ _ _ _ _ _)
      | (with_reducible exact ih4 _ _ _ _ _ _ _ _ _ _ _ _ _ _ _ _ _)
      | (with_reducible exact gunnyref01_Put.mono _ _ _)
      | (with_reducible exact gunnyref39_Has.mono _ _)
      | (with_reducible exact LeO.refl _)
      | (with_reducible exact LeO.none _)
      | (with_reducible refine LeO.ite ?_ ?_)
      | (with_reducible refine LeO.bind ?_ (fun _ => ?_))
      | exact ih0 _ _ _ _ _ _ _ _
      | exact ih1 _ _ _ _ _ _ _ _ _ _
      | exact ih2 _ _ _ _ _ _ _ _
      | exact ih3 _ _ _ _ _ _ _ _ _ _ _ _ _ _ _ _ _
      | exact ih4 _ _ _ _ _ _ _ _ _ _ _ _ _ _ _ _ _
      | exact gunnyref01_Put.mono _ _ _
      | exact gunnyref39_Has.mono _ _
      | exact LeO.none _
      | refine LeO.ite ?_ ?_
      | refine LeO.bind ?_ (fun _ => ?_)
    · intro y0 y1 y2 y3 y4 y5 y6 y7
      unfold gunnyref39_Put.l2
      repeat' first
      | (with_reducible exact ih0 _ _ _ _ _ _ _ _)
      | (with_reducible exact ih1 _ _ _ _ _ _ _ _ _ _)
      | (with_reducible exact ih2 _ _ _ _ _ _ _ _)
      | (with_reducible exact ih3 _ _ _ _ _ _ _ _ _ _ _ _ _ _ _ _ _)
      | (with_reducible exact ih4 _ _ _ _ _ _ _ _ _ _ _ _ _ _ _ _ _)
      | (with_reducible exact gunnyref01_Put.mono _ _ _)
      | (with_reducible exact gunnyref39_Has.mono _ _)
      | (with_reducible exact LeO.refl _)
      | (with_reducible exact LeO.none _)
      | (with_reducible refine LeO.ite ?_ ?_)
      | (with_reducible refine LeO.bind ?_ (fun _ => ?_))
      | exact ih0 _ _ _ _ _ _ _ _
      | exact ih1 _ _ _ _ _ _ _ _ _ _
      | exact ih2 _ _ _ _ _ _ _ _
      | exact ih3 _ _ _ _ _ _ _ _ _ _ _ _ _ _ _ _ _
      | exact ih4 _ _ _ _ _ _ _ _ _ _ _ _ _ _ _ _ _
      | exact gunnyref01_Put.mono _ _ _
      | exact gunnyref39_Has.mono _ _
      | exact LeO.none _
      | refine LeO.ite ?_ ?_
      | refine LeO.bind ?_ (fun _ => ?_)
    · intro y0 y1 y2 y3 y4 y5 y6 y7 y8 y9 y10 y11 y12 y13 y14 y15 y16
      unfold gunnyref39_Put.j3
      repeat' first
      | (with_reducible exact ih0 _ _ _ _ _ _ _ _)
      | (with_reducible exact ih1 _ _ _ _ _ _ _ _ _ _)
      | (with_reducible exact ih2 _ _ _ _ _ _ _ _)
      | (with_reducible exact ih3 _ _ _ _ _ _ _ _ _ _ _ _ _ _ _ _ _)
      | (with_reducible exact ih4 _ _ _ _ _ _ _ _ _ _ _ _ _ _ _ _ _)
      | (with_reducible exact gunnyref01_Put.mono _ _ _)
      | (with_reducible exact gunnyref39_Has.mono _ _)
      | (with_reducible exact LeO.refl _)
      | (with_reducible exact LeO.none _)
      | (with_reducible refine LeO.ite ?_ ?_)
      | (with_reducible refine LeO.bind ?_ (fun _ => ?_))
      | exact ih0 _ _ _ _ _ _ _ _
      | exact ih1 _ _ _ _ _ _ _ _ _ _
      | exact ih2 _ _ _ _ _ _ _ _
      | exact ih3 _ _ _ _ _ _ _ _ _ _ _ _ _ _ _ _ _
      | exact ih4 _ _ _ _ _ _ _ _ _ _ _ _ _ _ _ _ _
      | exact gunnyref01_Put.mono _ _ _
      | exact gunnyref39_Has.mono _ _
      | exact LeO.none _
      | refine LeO.ite ?_ ?_
      | refine LeO.bind ?_ (fun _ => ?_)
    · intro y0 y1 y2 y3 y4 y5 y6 y7 y8 y9 y10 y11 y12 y13 y14 y15 y16
      unfold gunnyref39_Put.j4
      repeat' first
      | (with_reducible exact ih0 _ _ _ _ _ _ _ _)
      | (with_reducible exact ih1 _ _ _ _ _ _ _ _ _ _)
      | (with_reducible exact ih2 _ _ _ _ _ _ _ _)
      | (with_reducible exact ih3 _ _ _ _ _ _ _ _ _ _ _ _ _ _ _ _ _)
      | (with_reducible exact ih4 _ _ _ _ _ _ _ _ _ _ _ _ _ _ _ _ _)
      | (with_reducible exact gunnyref01_Put.mono _ _ _)
      | (with_reducible exact gunnyref39_Has.mono _ _)
      | (with_reducible exact LeO.refl _)
      | (with_reducible exact LeO.none _)
      | (with_reducible refine LeO.ite ?_ ?_)
      | (with_reducible refine LeO.bind ?_ (fun _ => ?_))
      | exact ih0 _ _ _ _ _ _ _ _
      | exact ih1 _ _ _ _ _ _ _ _ _ _
      | exact ih2 _ _ _ _ _ _ _ _
      | exact ih3 _ _ _ _ _ _ _ _ _ _ _ _ _ _ _ _ _
      | exact ih4 _ _ _ _ _ _ _ _ _ _ _ _ _ _ _ _ _
      | exact gunnyref01_Put.mono _ _ _
      | exact gunnyref39_Has.mono _ _
      | exact LeO.none _
      | refine LeO.ite ?_ ?_
      | refine LeO.bind ?_ (fun _ => ?_)
theorem gunnyref39_Put.mono : ∀ a0 a1 a2 a3 a4 a5 k, LeO (gunnyref39_Put.f k a0 a1 a2 a3 a4 a5) (gunnyref39_Put.f (k + 1) a0 a1 a2 a3 a4 a5) := by
  intro a0 a1 a2 a3 a4 a5 k
  obtain ⟨ih0, ih1, ih2, ih3, ih4⟩ := gunnyref39_Put.mono_l k
  unfold gunnyref39_Put.f
  repeat' first
      | (with_reducible exact ih0 _ _ _ _ _ _ _ _)
      | (with_reducible exact ih1 _ _ _ _ _ _ _ _ _ _)
      | (with_reducible exact ih2 _ _ _ _ _ _ _ _)
      | (with_reducible exact ih3 _ _ _ _ _ _ _ _ _ _ _ _ _ _ _ _ _)
      | (with_reducible exact ih4 _ _ _ _ _ _ _ _ _ _ _ _ _ _ _ _ _)
      | (with_reducible exact gunnyref01_Put.mono _ _ _)
      | (with_reducible exact gunnyref39_Has.mono _ _)
      | (with_reducible exact LeO.refl _)
      | (with_reducible exact LeO.none _)
      | (with_reducible refine LeO.ite ?_ ?_)
      | (with_reducible refine LeO.bind ?_ (fun _ => ?_))
      | exact ih0 _ _ _ _ _ _ _ _
      | exact ih1 _ _ _ _ _ _ _ _ _ _
      | exact ih2 _ _ _ _ _ _ _ _
      | exact ih3 _ _ _ _ _ _ _ _ _ _ _ _ _ _ _ _ _
      | exact ih4 _ _ _ _ _ _ _ _ _ _ _ _ _ _ _ _ _
      | exact gunnyref01_Put.mono _ _ _
      | exact gunnyref39_Has.mono _ _
      | exact LeO.none _
      | refine LeO.ite ?_ ?_
      | refine LeO.bind ?_ (fun _ => ?_)
set_option maxHeartbeats 8000000 in
set_option maxRecDepth 100000 in
theorem gunnyref39_Put.calls (k : Nat) (a0_0 : Int) (a0_1 : Int) (a0_2 : Int) (a0_3 : Int) (A0_4 : Option Addr) (c0_4 : Nat) (l0_4 : List Bool) (A0_5 : Option Addr) (c0_5 : Nat) (l0_5 : List (S39)) (r : List Int) (w : World) (hr0_4 : Kd.C Kd.bool w A0_4 l0_4.length l0_4) (hc0_4 : l0_4.length ≤ c0_4) (hr0_5 : Kd.C k39 w A0_5 l0_5.length l0_5) (hc0_5 : l0_5.length ≤ c0_5) (h : gunnyref39_Put.f k a0_0 a0_1 a0_2 a0_3 l0_4 l0_5 = some r) :
    Calls Try.prog 15 #[.agg #[.int .i64 a0_0, .int .i64 a0_1, .int .i64 a0_2, .int .i64 a0_3, .slice A0_4 l0_4.length c0_4, .slice A0_5 l0_5.length c0_5]] w fun e w' => ∃ v0_ : Value, e = .returned (v0_) ∧ Kd.R (Kd.int .u8) 5 w' w.heap.size (fun _ => True) v0_ r ∧ Below w.heap.size w w' := by
  have hu27 := Try.underlying27
  have hu23 := Try.underlying23
  have hu39 := Try.underlying39
  have hu62 := Try.underlying62
  have HR0_4 := Aside0.mk hr0_4
  have HC0_4 := Aside0.mk hc0_4
  clear hr0_4 hc0_4
  have HR0_5 := Aside0.mk hr0_5
  have HC0_5 := Aside0.mk hc0_5
  clear hr0_5 hc0_5
  have HB := Aside0.mk (Below.refl w.heap.size w)
  have H : (gunnyref39_Put.l0 k (([71, (a0_0) % 256, (a0_1) % 256, (a0_2) % 256, (a0_3) % 256, (l0_4.length : Int) % 256, (wrap64 (Int.tdiv (l0_4.length : Int) 256)) % 256] : List Int)) 0 a0_0 a0_1 a0_2 a0_3 l0_4 l0_5) = some r := h
  clear h
  obtain ⟨y232, hy232⟩ : ∃ y_ : List Int, y_ = (([71, (a0_0) % 256, (a0_1) % 256, (a0_2) % 256, (a0_3) % 256, (l0_4.length : Int) % 256, (wrap64 (Int.tdiv (l0_4.length : Int) 256)) % 256] : List Int)) := ⟨_, rfl⟩
  replace H : (gunnyref39_Put.l0 k y232 0 a0_0 a0_1 a0_2 a0_3 l0_4 l0_5) = some r := by first | (rw [hy232]; with_reducible exact H) | (have H2_ := (Option.bind_some _ _).symm.trans H; rw [hy232]; with_reducible exact H2_) | (have H2_ := (Option.bind_some _ _).symm.trans H; with_reducible exact H2_) | with_reducible exact H | (rw [hy232]; exact H) | exact H
  have Ny232 := Aside0.mk hy232
  clear hy232
  have H' := Aside0.mk H
  clear H
  go_enter Try.func15, Try.ntmps15
  go_wp2_with (first | ((with_reducible refine gate_dst (N := 1) rfl ?_); refine box_event ?hg (N := 1) ?hd (cs := #[.int .i64 a0_0, .int .i64 a0_1, .int .i64 a0_2, .int .i64 a0_3, .slice A0_4 l0_4.length c0_4, .slice A0_5 l0_5.length c0_5]) (t := 27) ?hr ?_; (case hd => rfl); (case hg => rfl); (case hr => first | (go_simp; done) | (go_simp; rfl)); intro gb230 hg w2 hbox hb; have n0_ := Aside0.mk (below_step (by repeat (first | (with_reducible first | exact HB.out | apply below_alloc | apply pw_below_drewN | apply below_drew1) | exact HB.out)) hb); have n1_ := Aside0.mk (hbox); have n2_ := Aside0.mk ((by rw [hg]; exact (below_size (by repeat (first | (with_reducible first | exact HB.out | apply below_alloc | apply pw_below_drewN | apply below_drew1) | exact HB.out))) : w.heap.size ≤ gb230)); have n3_ := Aside0.mk ((by rw [hg]; exact (below_size (by repeat (first | (with_reducible first | exact HB.out | apply below_alloc | apply pw_below_drewN | apply below_drew1) | exact HB.out))) : w.heap.size ≤ gb230)); clear HB; have HB := n0_; have BK230 := n1_; have GW230 := n2_; have GE230 := n3_; clear n0_ n1_ n2_ n3_; clear hb hbox hg; have hcz3_0 : w2.cell? ⟨gb230, 0, none⟩ = some (.int .i64 a0_0) := (blk_cell BK230.out 0).trans rfl; have hcz3_1 : w2.cell? ⟨gb230, 1, none⟩ = some (.int .i64 a0_1) := (blk_cell BK230.out 1).trans rfl; have hcz3_2 : w2.cell? ⟨gb230, 2, none⟩ = some (.int .i64 a0_2) := (blk_cell BK230.out 2).trans rfl; have hcz3_3 : w2.cell? ⟨gb230, 3, none⟩ = some (.int .i64 a0_3) := (blk_cell BK230.out 3).trans rfl; have hcz3_4 : w2.cell? ⟨gb230, 4, none⟩ = some (.slice A0_4 l0_4.length c0_4) := (blk_cell BK230.out 4).trans rfl; have hcz3_5 : w2.cell? ⟨gb230, 5, none⟩ = some (.slice A0_5 l0_5.length c0_5) := (blk_cell BK230.out 5).trans rfl; have hfz3_0 := blk_frozen BK230.out 0; have hfz3_1 := blk_frozen BK230.out 1; have hfz3_2 := blk_frozen BK230.out 2; have hfz3_3 := blk_frozen BK230.out 3; have hfz3_4 := blk_frozen BK230.out 4; have hfz3_5 := blk_frozen BK230.out 5) | ((with_reducible refine gate_dst (N := 3) rfl ?_); refine box_event ?hg (N := 3) ?hd (cs := #[.int .i64 0, .int .i64 0, .int .i64 0, .int .i64 0]) (t := 23) ?hr ?_; (case hd => rfl); (case hg => rfl); (case hr => first | (go_simp; done) | (go_simp; rfl)); intro gb231 hg w4 hbox hb; have n0_ := Aside0.mk (blk_below (g := gb230) (o := .cells #[.int .i64 a0_0, .int .i64 a0_1, .int .i64 a0_2, .int .i64 a0_3, .slice A0_4 l0_4.length c0_4, .slice A0_5 l0_5.length c0_5] 27 (0, 0)) (by (with_reducible repeat (first | refine blk_drewN ?_ _ | refine blk_drew ?_ | refine blk_alloc ?_ _)); exact BK230.out) hb); have n1_ := Aside0.mk (below_step (by repeat (first | (with_reducible first | exact HB.out | apply below_alloc | apply pw_below_drewN | apply below_drew1 | refine below_set ?_ GE230.out) | exact HB.out)) hb); have n2_ := Aside0.mk (hbox); have n3_ := Aside0.mk ((by rw [hg]; exact (below_size (by repeat (first | (with_reducible first | exact HB.out | apply below_alloc | apply pw_below_drewN | apply below_drew1 | refine below_set ?_ GE230.out) | exact HB.out))) : w.heap.size ≤ gb231)); have n4_ := Aside0.mk ((by rw [hg]; exact (below_size (by repeat (first | (with_reducible first | exact HB.out | apply below_alloc | apply pw_below_drewN | apply below_drew1 | refine below_set ?_ GE230.out) | exact HB.out))) : w.heap.size ≤ gb231)); have n5_ := Aside0.mk ((by rw [hg]; exact Nat.ne_of_lt (blk_lt (g := gb230) (o := .cells #[.int .i64 a0_0, .int .i64 a0_1, .int .i64 a0_2, .int .i64 a0_3, .slice A0_4 l0_4.length c0_4, .slice A0_5 l0_5.length c0_5] 27 (0, 0)) (by (with_reducible repeat (first | refine blk_drewN ?_ _ | refine blk_drew ?_ | refine blk_alloc ?_ _)); exact BK230.out)) : gb230 ≠ gb231)); have n6_ := Aside0.mk ((by rw [hg]; exact Nat.ne_of_gt (blk_lt (g := gb230) (o := .cells #[.int .i64 a0_0, .int .i64 a0_1, .int .i64 a0_2, .int .i64 a0_3, .slice A0_4 l0_4.length c0_4, .slice A0_5 l0_5.length c0_5] 27 (0, 0)) (by (with_reducible repeat (first | refine blk_drewN ?_ _ | refine blk_drew ?_ | refine blk_alloc ?_ _)); exact BK230.out)) : gb231 ≠ gb230)); clear BK230; clear HB; have BK230 := n0_; have HB := n1_; have BK231 := n2_; have GW231 := n3_; have GE231 := n4_; have NB230_231 := n5_; have NB231_230 := n6_; clear n0_ n1_ n2_ n3_ n4_ n5_ n6_; clear hb hbox hg; have hnb5 := NB231_230.out; have hnc5 := NB230_231.out; have hcz6_0 : w4.cell? ⟨gb231, 0, none⟩ = some (.int .i64 0) := (blk_cell BK231.out 0).trans rfl; have hcz6_1 : w4.cell? ⟨gb231, 1, none⟩ = some (.int .i64 0) := (blk_cell BK231.out 1).trans rfl; have hcz6_2 : w4.cell? ⟨gb231, 2, none⟩ = some (.int .i64 0) := (blk_cell BK231.out 2).trans rfl; have hcz6_3 : w4.cell? ⟨gb231, 3, none⟩ = some (.int .i64 0) := (blk_cell BK231.out 3).trans rfl; have hfz6_0 := blk_frozen BK231.out 0; have hfz6_1 := blk_frozen BK231.out 1; have hfz6_2 := blk_frozen BK231.out 2; have hfz6_3 := blk_frozen BK231.out 3; have hcz7_0 : w4.cell? ⟨gb230, 0, none⟩ = some (.int .i64 a0_0) := (blk_cell BK230.out 0).trans rfl; have hcz7_1 : w4.cell? ⟨gb230, 1, none⟩ = some (.int .i64 a0_1) := (blk_cell BK230.out 1).trans rfl; have hcz7_2 : w4.cell? ⟨gb230, 2, none⟩ = some (.int .i64 a0_2) := (blk_cell BK230.out 2).trans rfl; have hcz7_3 : w4.cell? ⟨gb230, 3, none⟩ = some (.int .i64 a0_3) := (blk_cell BK230.out 3).trans rfl; have hcz7_4 : w4.cell? ⟨gb230, 4, none⟩ = some (.slice A0_4 l0_4.length c0_4) := (blk_cell BK230.out 4).trans rfl; have hcz7_5 : w4.cell? ⟨gb230, 5, none⟩ = some (.slice A0_5 l0_5.length c0_5) := (blk_cell BK230.out 5).trans rfl; have hfz7_0 := blk_frozen BK230.out 0; have hfz7_1 := blk_frozen BK230.out 1; have hfz7_2 := blk_frozen BK230.out 2; have hfz7_3 := blk_frozen BK230.out 3; have hfz7_4 := blk_frozen BK230.out 4; have hfz7_5 := blk_frozen BK230.out 5) | ((with_reducible refine gate_dst (N := 35) rfl ?_); refine Kd.R_lit (Kd.int .u8) _ 5 ?hg (N := 35) ?hd (xs := ([71, (a0_0) % 256, (a0_1) % 256, (a0_2) % 256, (a0_3) % 256, (l0_4.length : Int) % 256, (wrap64 (Int.tdiv (l0_4.length : Int) 256)) % 256] : List Int)) (inner := [.int .u8 71, .int .u8 ((a0_0) % 256), .int .u8 ((a0_1) % 256), .int .u8 ((a0_2) % 256), .int .u8 ((a0_3) % 256), .int .u8 ((l0_4.length : Int) % 256), .int .u8 ((wrap64 (Int.tdiv (l0_4.length : Int) 256)) % 256)]) (ok := fun _ => True) (okp := fun _ => True) ?hr ?hp (fun _ hk => hk) trivial (Below.refl _ _) (Nat.le_refl _) (by simp) ?_; (case hd => rfl); (case hg => rfl); (case hr => first | (go_simp; done) | (go_simp; rfl)); (case hp => exact (Reps.one (show Kd.M (Kd.int .u8) _ _ _ 71 [.int .u8 71] from rfl) (Reps.one (show Kd.M (Kd.int .u8) _ _ _ ((a0_0) % 256) [.int .u8 ((a0_0) % 256)] from rfl) (Reps.one (show Kd.M (Kd.int .u8) _ _ _ ((a0_1) % 256) [.int .u8 ((a0_1) % 256)] from rfl) (Reps.one (show Kd.M (Kd.int .u8) _ _ _ ((a0_2) % 256) [.int .u8 ((a0_2) % 256)] from rfl) (Reps.one (show Kd.M (Kd.int .u8) _ _ _ ((a0_3) % 256) [.int .u8 ((a0_3) % 256)] from rfl) (Reps.one (show Kd.M (Kd.int .u8) _ _ _ ((l0_4.length : Int) % 256) [.int .u8 ((l0_4.length : Int) % 256)] from rfl) (Reps.one (show Kd.M (Kd.int .u8) _ _ _ ((wrap64 (Int.tdiv (l0_4.length : Int) 256)) % 256) [.int .u8 ((wrap64 (Int.tdiv (l0_4.length : Int) 256)) % 256)] from rfl) (Reps.none _ _))))))))); intro v233 w8 ho9 hb hg_ hnew_; clear hg_ hnew_; (first | rw [← Ny232.out] at ho9 | (simp only [Int.reduceToNat] at ho9; rw [← Ny232.out] at ho9)); have n0_ := Aside0.mk (Kd.R_lower ho9 (below_size (by repeat (first | (with_reducible first | exact HB.out | apply below_alloc | apply pw_below_drewN | apply below_drew1 | refine below_set ?_ GE230.out | refine below_set ?_ GE231.out) | exact HB.out)))); have n1_ := Aside0.mk (blk_below (g := gb230) (o := .cells #[.int .i64 a0_0, .int .i64 a0_1, .int .i64 a0_2, .int .i64 a0_3, .slice A0_4 l0_4.length c0_4, .slice A0_5 l0_5.length c0_5] 27 (0, 0)) (by (with_reducible repeat (first | refine blk_drewN ?_ _ | refine blk_drew ?_ | refine blk_alloc ?_ _)); refine blk_far ?_ NB230_231.out _; (with_reducible repeat (first | refine blk_drewN ?_ _ | refine blk_drew ?_ | refine blk_alloc ?_ _)); refine blk_far ?_ NB230_231.out _; (with_reducible repeat (first | refine blk_drewN ?_ _ | refine blk_drew ?_ | refine blk_alloc ?_ _)); refine blk_far ?_ NB230_231.out _; (with_reducible repeat (first | refine blk_drewN ?_ _ | refine blk_drew ?_ | refine blk_alloc ?_ _)); refine blk_far ?_ NB230_231.out _; (with_reducible repeat (first | refine blk_drewN ?_ _ | refine blk_drew ?_ | refine blk_alloc ?_ _)); exact BK230.out) hb); have n2_ := Aside0.mk (blk_below (g := gb231) (o := .cells #[.int .i64 a0_0, .int .i64 a0_1, .int .i64 a0_2, .int .i64 a0_3] 23 (0, 0)) (by (with_reducible repeat (first | refine blk_drewN ?_ _ | refine blk_drew ?_ | refine blk_alloc ?_ _)); refine blk_put (cs := #[.int .i64 a0_0, .int .i64 a0_1, .int .i64 a0_2, .int .i64 0]) ?_ 3 _ rfl; (with_reducible repeat (first | refine blk_drewN ?_ _ | refine blk_drew ?_ | refine blk_alloc ?_ _)); refine blk_put (cs := #[.int .i64 a0_0, .int .i64 a0_1, .int .i64 0, .int .i64 0]) ?_ 2 _ rfl; (with_reducible repeat (first | refine blk_drewN ?_ _ | refine blk_drew ?_ | refine blk_alloc ?_ _)); refine blk_put (cs := #[.int .i64 a0_0, .int .i64 0, .int .i64 0, .int .i64 0]) ?_ 1 _ rfl; (with_reducible repeat (first | refine blk_drewN ?_ _ | refine blk_drew ?_ | refine blk_alloc ?_ _)); refine blk_put (cs := #[.int .i64 0, .int .i64 0, .int .i64 0, .int .i64 0]) ?_ 0 _ rfl; (with_reducible repeat (first | refine blk_drewN ?_ _ | refine blk_drew ?_ | refine blk_alloc ?_ _)); exact BK231.out) hb); have n3_ := Aside0.mk (below_step (by repeat (first | (with_reducible first | exact HB.out | apply below_alloc | apply pw_below_drewN | apply below_drew1 | refine below_set ?_ GE230.out | refine below_set ?_ GE231.out) | exact HB.out)) hb); clear BK230; clear BK231; clear HB; have HO234 := n0_; have BK230 := n1_; have BK231 := n2_; have HB := n3_; clear n0_ n1_ n2_ n3_; clear hb ho9))
  go_loopg [4, 5] k (fun kq v4 v5 w' => ∃ (x4_1 : List Int) (x5_1 : Int), v5 = .int .i64 x5_1 ∧ Aside0 (gunnyref39_Put.l0 kq x4_1 x5_1 a0_0 a0_1 a0_2 a0_3 l0_4 l0_5 = some r) ∧ Aside0 (kq ≤ k) ∧ Aside0 (Kd.R (Kd.int .u8) 5 w' w.heap.size (fun _ => True) v4 x4_1) ∧ Aside0 (w'.heap[gb230]? = some (.cells #[.int .i64 a0_0, .int .i64 a0_1, .int .i64 a0_2, .int .i64 a0_3, (.slice A0_4 l0_4.length c0_4), (.slice A0_5 l0_5.length c0_5)] 27 (0, 0))) ∧ Aside0 (w'.heap[gb231]? = some (.cells #[.int .i64 a0_0, .int .i64 a0_1, .int .i64 a0_2, .int .i64 a0_3] 23 (0, 0))) ∧ Aside0 (Below w.heap.size w w'))
  case atStart => exact ⟨(y232), (0), (by first | rfl | (simp; done) | (simp [*]; done)), H', ⟨Nat.le_refl _⟩, ⟨by (with_reducible repeat (first | apply Kd.R_alloc | apply Kd.R_drewN | apply Kd.R_drew)); exact HO234.out⟩, ⟨by (with_reducible repeat (first | refine blk_drewN ?_ _ | refine blk_drew ?_ | refine blk_alloc ?_ _)); exact BK230.out⟩, ⟨by (with_reducible repeat (first | refine blk_drewN ?_ _ | refine blk_drew ?_ | refine blk_alloc ?_ _)); exact BK231.out⟩, ⟨by repeat (first | (with_reducible first | exact HB.out | apply below_alloc | apply pw_below_drewN | apply below_drew1 | refine below_set ?_ GE230.out | refine below_set ?_ GE231.out) | exact HB.out)⟩⟩
  case round =>
    clear H'
    try clear c1
    try clear p2
    try clear c5
    try clear p6
    try clear hcz3_0
    try clear hcz3_1
    try clear hcz3_2
    try clear hcz3_3
    try clear hcz3_4
    try clear hcz3_5
    try clear hcz6_0
    try clear hcz6_1
    try clear hcz6_2
    try clear hcz6_3
    try clear hcz7_0
    try clear hcz7_1
    try clear hcz7_2
    try clear hcz7_3
    try clear hcz7_4
    try clear hcz7_5
    try clear hfz3_0
    try clear hfz3_1
    try clear hfz3_2
    try clear hfz3_3
    try clear hfz3_4
    try clear hfz3_5
    try clear hfz6_0
    try clear hfz6_1
    try clear hfz6_2
    try clear hfz6_3
    try clear hfz7_0
    try clear hfz7_1
    try clear hfz7_2
    try clear hfz7_3
    try clear hfz7_4
    try clear hfz7_5
    obtain ⟨x4_1, x5_1, rfl, HA, HK1, HO_4, BK230, BK231, HB⟩ := hrel
    cases gk with
    | zero => exact absurd HA.out (by simp [gunnyref39_Put.l0])
    | succ k1 =>
      have H := HA.out
      clear HA
      simp only [gunnyref39_Put.l0] at H
      by_cases c10 : x5_1 < (l0_4.length : Int)
      · rw [if_pos c10] at H
        have c10b0 : decide (x5_1 < (l0_4.length : Int)) = true := decide_eq_true c10
        clear c10
        have H' := Aside0.mk H
        clear H
        have hnb11 := NB230_231.out
        have hnc11 := NB231_230.out
        have hcz12_0 : wr.cell? ⟨gb230, 0, none⟩ = some (.int .i64 a0_0) := (blk_cell BK230.out 0).trans rfl
        have hcz12_1 : wr.cell? ⟨gb230, 1, none⟩ = some (.int .i64 a0_1) := (blk_cell BK230.out 1).trans rfl
        have hcz12_2 : wr.cell? ⟨gb230, 2, none⟩ = some (.int .i64 a0_2) := (blk_cell BK230.out 2).trans rfl
        have hcz12_3 : wr.cell? ⟨gb230, 3, none⟩ = some (.int .i64 a0_3) := (blk_cell BK230.out 3).trans rfl
        have hcz12_4 : wr.cell? ⟨gb230, 4, none⟩ = some (.slice A0_4 l0_4.length c0_4) := (blk_cell BK230.out 4).trans rfl
        have hcz12_5 : wr.cell? ⟨gb230, 5, none⟩ = some (.slice A0_5 l0_5.length c0_5) := (blk_cell BK230.out 5).trans rfl
        have hfz12_0 := blk_frozen BK230.out 0
        have hfz12_1 := blk_frozen BK230.out 1
        have hfz12_2 := blk_frozen BK230.out 2
        have hfz12_3 := blk_frozen BK230.out 3
        have hfz12_4 := blk_frozen BK230.out 4
        have hfz12_5 := blk_frozen BK230.out 5
        go_wp2
        go_loopg [6, 7] k1 (fun kq v6 v7 w' => ∃ (x6_2 : Int) (x7_2 : Int), v6 = .int .i64 x6_2 ∧ v7 = .int .i64 x7_2 ∧ Aside0 (gunnyref39_Put.l1 kq x4_1 x5_1 x6_2 x7_2 a0_0 a0_1 a0_2 a0_3 l0_4 l0_5 = some r) ∧ Aside0 (kq ≤ k1) ∧ Aside0 (Kd.R (Kd.int .u8) 5 w' w.heap.size (fun _ => True) u4 x4_1) ∧ Aside0 (w'.heap[gb230]? = some (.cells #[.int .i64 a0_0, .int .i64 a0_1, .int .i64 a0_2, .int .i64 a0_3, (.slice A0_4 l0_4.length c0_4), (.slice A0_5 l0_5.length c0_5)] 27 (0, 0))) ∧ Aside0 (w'.heap[gb231]? = some (.cells #[.int .i64 a0_0, .int .i64 a0_1, .int .i64 a0_2, .int .i64 a0_3] 23 (0, 0))) ∧ Aside0 (Below w.heap.size w w'))
        case atStart => exact ⟨(0), (7), (by first | rfl | (simp; done) | (simp [*]; done)), (by first | rfl | (simp; done) | (simp [*]; done)), H', ⟨Nat.le_refl _⟩, ⟨by (with_reducible repeat (first | apply Kd.R_alloc | apply Kd.R_drewN | apply Kd.R_drew)); exact HO_4.out⟩, ⟨by (with_reducible repeat (first | refine blk_drewN ?_ _ | refine blk_drew ?_ | refine blk_alloc ?_ _)); exact BK230.out⟩, ⟨by (with_reducible repeat (first | refine blk_drewN ?_ _ | refine blk_drew ?_ | refine blk_alloc ?_ _)); exact BK231.out⟩, ⟨by repeat (first | (with_reducible first | exact HB.out | apply below_alloc | apply pw_below_drewN | apply below_drew1 | refine below_set ?_ GE230.out | refine below_set ?_ GE231.out) | exact HB.out)⟩⟩
        case round =>
          clear H'
          try clear c1
          try clear p2
          try clear c5
          try clear p6
          try clear c10
          try clear c10b0
          try clear c11
          try clear hcz12_0
          try clear hcz12_1
          try clear hcz12_2
          try clear hcz12_3
          try clear hcz12_4
          try clear hcz12_5
          try clear hcz3_0
          try clear hcz3_1
          try clear hcz3_2
          try clear hcz3_3
          try clear hcz3_4
          try clear hcz3_5
          try clear hcz6_0
          try clear hcz6_1
          try clear hcz6_2
          try clear hcz6_3
          try clear hcz7_0
          try clear hcz7_1
          try clear hcz7_2
          try clear hcz7_3
          try clear hcz7_4
          try clear hcz7_5
          try clear hfz12_0
          try clear hfz12_1
          try clear hfz12_2
          try clear hfz12_3
          try clear hfz12_4
          try clear hfz12_5
          try clear hfz3_0
          try clear hfz3_1
          try clear hfz3_2
          try clear hfz3_3
          try clear hfz3_4
          try clear hfz3_5
          try clear hfz6_0
          try clear hfz6_1
          try clear hfz6_2
          try clear hfz6_3
          try clear hfz7_0
          try clear hfz7_1
          try clear hfz7_2
          try clear hfz7_3
          try clear hfz7_4
          try clear hfz7_5
          try clear p2
          try clear p6
          obtain ⟨x6_2, x7_2, rfl, rfl, HA, HK2, HO_4, BK230, BK231, HB⟩ := hrel
          cases gk with
          | zero => exact absurd HA.out (by simp [gunnyref39_Put.l1])
          | succ k2 =>
            have H := HA.out
            clear HA
            simp only [gunnyref39_Put.l1] at H
            by_cases c13 : x7_2 ≥ 0
            · rw [if_pos c13] at H
              have c13b0 : decide (0 ≤ x7_2) = true := decide_eq_true c13
              clear c13
              by_cases c14 : (wrap64 (x5_1 + x7_2)) < (l0_4.length : Int)
              · rw [if_pos c14] at H
                have c14b0 : decide ((wrap64 (x5_1 + x7_2)) < (l0_4.length : Int)) = true := decide_eq_true c14
                clear c14
                obtain ⟨ji15, hji15⟩ : ∃ j_ : Int, (wrap64 (x5_1 + x7_2)) = j_ := ⟨_, rfl⟩
                replace H : (if 0 ≤ (ji15) then (if rdOf false l0_4 (ji15) = true then (gunnyref39_Put.l1 k2 x4_1 x5_1 (wrap64 ((wrap64 (2 * x6_2)) + 1)) (wrap64 (x7_2 - 1)) a0_0 a0_1 a0_2 a0_3 l0_4 l0_5) else (gunnyref39_Put.l1 k2 x4_1 x5_1 (wrap64 (2 * x6_2)) (wrap64 (x7_2 - 1)) a0_0 a0_1 a0_2 a0_3 l0_4 l0_5)) else (none)) = some r := by first | (rw [hji15] at H; exact H) | (simp only [hji15] at H ⊢; exact H)
                (try rw [hji15] at c14b0)
                have hji15w : (IntKind.i64.wrap (x5_1 + x7_2)) = ji15 := (i64_w _).trans hji15
                by_cases c16 : 0 ≤ (ji15)
                · rw [if_pos c16] at H
                  have c16b0 : decide (0 ≤ (ji15)) = true := decide_eq_true c16
                  clear c16
                  obtain ⟨bq17, hbq17⟩ : ∃ b_ : Bool, b_ = (rdOf false l0_4 (ji15)) := ⟨_, rfl⟩
                  replace H : (if bq17 = true then (gunnyref39_Put.l1 k2 x4_1 x5_1 (wrap64 ((wrap64 (2 * x6_2)) + 1)) (wrap64 (x7_2 - 1)) a0_0 a0_1 a0_2 a0_3 l0_4 l0_5) else (gunnyref39_Put.l1 k2 x4_1 x5_1 (wrap64 (2 * x6_2)) (wrap64 (x7_2 - 1)) a0_0 a0_1 a0_2 a0_3 l0_4 l0_5)) = some r := by rw [← hbq17] at H; exact H
                  have Nbq17 := Aside0.mk hbq17
                  clear hbq17
                  by_cases c18 : bq17 = true
                  · subst c18
                    have H1 : (gunnyref39_Put.l1 k2 x4_1 x5_1 (wrap64 ((wrap64 (2 * x6_2)) + 1)) (wrap64 (x7_2 - 1)) a0_0 a0_1 a0_2 a0_3 l0_4 l0_5) = some r := by rw [if_pos rfl] at H; exact H
                    clear H
                    have H := H1
                    clear H1
                    have H' := Aside0.mk H
                    clear H
                    have hnb19 := NB230_231.out
                    have hnc19 := NB231_230.out
                    have hcz20_0 : wr.cell? ⟨gb230, 0, none⟩ = some (.int .i64 a0_0) := (blk_cell BK230.out 0).trans rfl
                    have hcz20_1 : wr.cell? ⟨gb230, 1, none⟩ = some (.int .i64 a0_1) := (blk_cell BK230.out 1).trans rfl
                    have hcz20_2 : wr.cell? ⟨gb230, 2, none⟩ = some (.int .i64 a0_2) := (blk_cell BK230.out 2).trans rfl
                    have hcz20_3 : wr.cell? ⟨gb230, 3, none⟩ = some (.int .i64 a0_3) := (blk_cell BK230.out 3).trans rfl
                    have hcz20_4 : wr.cell? ⟨gb230, 4, none⟩ = some (.slice A0_4 l0_4.length c0_4) := (blk_cell BK230.out 4).trans rfl
                    have hcz20_5 : wr.cell? ⟨gb230, 5, none⟩ = some (.slice A0_5 l0_5.length c0_5) := (blk_cell BK230.out 5).trans rfl
                    have hfz20_0 := blk_frozen BK230.out 0
                    have hfz20_1 := blk_frozen BK230.out 1
                    have hfz20_2 := blk_frozen BK230.out 2
                    have hfz20_3 := blk_frozen BK230.out 3
                    have hfz20_4 := blk_frozen BK230.out 4
                    have hfz20_5 := blk_frozen BK230.out 5
                    have p235 : 0 ≤ ((ji15) : Int) := of_decide_eq_true (by first | (with_reducible assumption) | assumption)
                    have q235 : (ji15) < (l0_4.length : Int) := of_decide_eq_true (by first | (with_reducible assumption) | assumption)
                    obtain ⟨ad235, e235, hx235_0⟩ := Kd.at_bool HR0_4.out (ji15) p235 q235
                    (try rw [← Nbq17.out] at hx235_0)
                    cases e235
                    replace hx235_0 := (HB.out.cell (World.block_lt_of_cell? w _ hx235_0)).trans hx235_0
                    replace p235 := eq_true p235
                    replace q235 := eq_true q235
                    go_wp2
                    go_roundg k2
                    case measure => have := HK1.out; have := HK2.out; omega
                    case rel => exact ⟨(wrap64 ((wrap64 (2 * x6_2)) + 1)), (wrap64 (x7_2 - 1)), (by first | rfl | (simp; done) | (simp [*]; done)), (by first | rfl | (simp; done) | (simp [*]; done)), H', ⟨by have := HK1.out; have := HK2.out; omega⟩, ⟨by (with_reducible repeat (first | apply Kd.R_alloc | apply Kd.R_drewN | apply Kd.R_drew)); exact HO_4.out⟩, ⟨by (with_reducible repeat (first | refine blk_drewN ?_ _ | refine blk_drew ?_ | refine blk_alloc ?_ _)); exact BK230.out⟩, ⟨by (with_reducible repeat (first | refine blk_drewN ?_ _ | refine blk_drew ?_ | refine blk_alloc ?_ _)); exact BK231.out⟩, ⟨by repeat (first | (with_reducible first | exact HB.out | apply below_alloc | apply pw_below_drewN | apply below_drew1 | refine below_set ?_ GE230.out | refine below_set ?_ GE231.out) | exact HB.out)⟩⟩
                  · replace c18 := Bool.eq_false_iff.mpr c18
                    subst c18
                    have H1 : (gunnyref39_Put.l1 k2 x4_1 x5_1 (wrap64 (2 * x6_2)) (wrap64 (x7_2 - 1)) a0_0 a0_1 a0_2 a0_3 l0_4 l0_5) = some r := by rw [if_neg (show ¬ (false = true) by decide)] at H; exact H
                    clear H
                    have H := H1
                    clear H1
                    have H' := Aside0.mk H
                    clear H
                    have hnb21 := NB230_231.out
                    have hnc21 := NB231_230.out
                    have hcz22_0 : wr.cell? ⟨gb230, 0, none⟩ = some (.int .i64 a0_0) := (blk_cell BK230.out 0).trans rfl
                    have hcz22_1 : wr.cell? ⟨gb230, 1, none⟩ = some (.int .i64 a0_1) := (blk_cell BK230.out 1).trans rfl
                    have hcz22_2 : wr.cell? ⟨gb230, 2, none⟩ = some (.int .i64 a0_2) := (blk_cell BK230.out 2).trans rfl
                    have hcz22_3 : wr.cell? ⟨gb230, 3, none⟩ = some (.int .i64 a0_3) := (blk_cell BK230.out 3).trans rfl
                    have hcz22_4 : wr.cell? ⟨gb230, 4, none⟩ = some (.slice A0_4 l0_4.length c0_4) := (blk_cell BK230.out 4).trans rfl
                    have hcz22_5 : wr.cell? ⟨gb230, 5, none⟩ = some (.slice A0_5 l0_5.length c0_5) := (blk_cell BK230.out 5).trans rfl
                    have hfz22_0 := blk_frozen BK230.out 0
                    have hfz22_1 := blk_frozen BK230.out 1
                    have hfz22_2 := blk_frozen BK230.out 2
                    have hfz22_3 := blk_frozen BK230.out 3
                    have hfz22_4 := blk_frozen BK230.out 4
                    have hfz22_5 := blk_frozen BK230.out 5
                    have p235 : 0 ≤ ((ji15) : Int) := of_decide_eq_true (by first | (with_reducible assumption) | assumption)
                    have q235 : (ji15) < (l0_4.length : Int) := of_decide_eq_true (by first | (with_reducible assumption) | assumption)
                    obtain ⟨ad235, e235, hx235_0⟩ := Kd.at_bool HR0_4.out (ji15) p235 q235
                    (try rw [← Nbq17.out] at hx235_0)
                    cases e235
                    replace hx235_0 := (HB.out.cell (World.block_lt_of_cell? w _ hx235_0)).trans hx235_0
                    replace p235 := eq_true p235
                    replace q235 := eq_true q235
                    go_wp2
                    go_roundg k2
                    case measure => have := HK1.out; have := HK2.out; omega
                    case rel => exact ⟨(wrap64 (2 * x6_2)), (wrap64 (x7_2 - 1)), (by first | rfl | (simp; done) | (simp [*]; done)), (by first | rfl | (simp; done) | (simp [*]; done)), H', ⟨by have := HK1.out; have := HK2.out; omega⟩, ⟨by (with_reducible repeat (first | apply Kd.R_alloc | apply Kd.R_drewN | apply Kd.R_drew)); exact HO_4.out⟩, ⟨by (with_reducible repeat (first | refine blk_drewN ?_ _ | refine blk_drew ?_ | refine blk_alloc ?_ _)); exact BK230.out⟩, ⟨by (with_reducible repeat (first | refine blk_drewN ?_ _ | refine blk_drew ?_ | refine blk_alloc ?_ _)); exact BK231.out⟩, ⟨by repeat (first | (with_reducible first | exact HB.out | apply below_alloc | apply pw_below_drewN | apply below_drew1 | refine below_set ?_ GE230.out | refine below_set ?_ GE231.out) | exact HB.out)⟩⟩
                · rw [if_neg c16] at H
                  exact absurd H (by simp)
              · rw [if_neg c14] at H
                have c14b0 : decide ((wrap64 (x5_1 + x7_2)) < (l0_4.length : Int)) = false := decide_eq_false c14
                clear c14
                have H' := Aside0.mk H
                clear H
                have hnb23 := NB230_231.out
                have hnc23 := NB231_230.out
                have hcz24_0 : wr.cell? ⟨gb230, 0, none⟩ = some (.int .i64 a0_0) := (blk_cell BK230.out 0).trans rfl
                have hcz24_1 : wr.cell? ⟨gb230, 1, none⟩ = some (.int .i64 a0_1) := (blk_cell BK230.out 1).trans rfl
                have hcz24_2 : wr.cell? ⟨gb230, 2, none⟩ = some (.int .i64 a0_2) := (blk_cell BK230.out 2).trans rfl
                have hcz24_3 : wr.cell? ⟨gb230, 3, none⟩ = some (.int .i64 a0_3) := (blk_cell BK230.out 3).trans rfl
                have hcz24_4 : wr.cell? ⟨gb230, 4, none⟩ = some (.slice A0_4 l0_4.length c0_4) := (blk_cell BK230.out 4).trans rfl
                have hcz24_5 : wr.cell? ⟨gb230, 5, none⟩ = some (.slice A0_5 l0_5.length c0_5) := (blk_cell BK230.out 5).trans rfl
                have hfz24_0 := blk_frozen BK230.out 0
                have hfz24_1 := blk_frozen BK230.out 1
                have hfz24_2 := blk_frozen BK230.out 2
                have hfz24_3 := blk_frozen BK230.out 3
                have hfz24_4 := blk_frozen BK230.out 4
                have hfz24_5 := blk_frozen BK230.out 5
                go_wp2
                go_roundg k2
                case measure => have := HK1.out; have := HK2.out; omega
                case rel => exact ⟨(wrap64 (2 * x6_2)), (wrap64 (x7_2 - 1)), (by first | rfl | (simp; done) | (simp [*]; done)), (by first | rfl | (simp; done) | (simp [*]; done)), H', ⟨by have := HK1.out; have := HK2.out; omega⟩, ⟨by (with_reducible repeat (first | apply Kd.R_alloc | apply Kd.R_drewN | apply Kd.R_drew)); exact HO_4.out⟩, ⟨by (with_reducible repeat (first | refine blk_drewN ?_ _ | refine blk_drew ?_ | refine blk_alloc ?_ _)); exact BK230.out⟩, ⟨by (with_reducible repeat (first | refine blk_drewN ?_ _ | refine blk_drew ?_ | refine blk_alloc ?_ _)); exact BK231.out⟩, ⟨by repeat (first | (with_reducible first | exact HB.out | apply below_alloc | apply pw_below_drewN | apply below_drew1 | refine below_set ?_ GE230.out | refine below_set ?_ GE231.out) | exact HB.out)⟩⟩
            · rw [if_neg c13] at H
              have c13b0 : decide (0 ≤ x7_2) = false := decide_eq_false c13
              clear c13
              by_cases c25 : x4_1.length < 140737488355328
              · rw [if_pos c25] at H
                have LMc25 := Aside0.mk c25
                clear c25
                obtain ⟨y236, hy236⟩ : ∃ y_ : List Int, y_ = (x4_1 ++ [(x6_2) % 256]) := ⟨_, rfl⟩
                replace H : (gunnyref39_Put.l0 k2 y236 (wrap64 (x5_1 + 8)) a0_0 a0_1 a0_2 a0_3 l0_4 l0_5) = some r := by first | (rw [hy236]; with_reducible exact H) | (have H2_ := (Option.bind_some _ _).symm.trans H; rw [hy236]; with_reducible exact H2_) | (have H2_ := (Option.bind_some _ _).symm.trans H; with_reducible exact H2_) | with_reducible exact H | (rw [hy236]; exact H) | exact H
                have Ny236 := Aside0.mk hy236
                clear hy236
                have H' := Aside0.mk H
                clear H
                go_wp2_with (first | ((with_reducible refine gate_builtin (b := .append) (xs := #[.tmp 67, .tmp 70]) rfl ?_); at_builtin; refine Kd.R_append (Kd.int .u8) (w0 := w) w.heap.size rfl (.tmp 67) (.tmp 70) 31 5 (.int .u8 0) 1 rfl Try.underlying31 info5 rfl (by decide) (by omega) u4 x4_1 ((x6_2) % 256) [.int .u8 ((x6_2) % 256)] (fun _ => True) (fun _ => False) rfl rfl ?aP (fun _ hk => hk.elim) ?aF ?aO ?aB ?aS ?aL ?_; (case aP => exact rfl); (case aB => exact (by repeat (first | (with_reducible first | exact HB.out | apply below_alloc | apply pw_below_drewN | apply below_drew1 | refine below_set ?_ GE230.out | refine below_set ?_ GE231.out) | exact HB.out))); (case aF => exact (fun _ _ => trivial)); (case aO => exact (by (with_reducible repeat (first | apply Kd.R_alloc | apply Kd.R_drewN | apply Kd.R_drew)); exact HO_4.out)); (case aS => exact (below_size (by repeat (first | (with_reducible first | exact HB.out | apply below_alloc | apply pw_below_drewN | apply below_drew1 | refine below_set ?_ GE230.out | refine below_set ?_ GE231.out) | exact HB.out)))); (case aL => have := LMc25.out; omega); intro v237 w26 ho hb hg hat; rw [← Ny236.out] at ho; have n0_ := Aside0.mk (blk_grown (g := gb230) (o := .cells #[.int .i64 a0_0, .int .i64 a0_1, .int .i64 a0_2, .int .i64 a0_3, .slice A0_4 l0_4.length c0_4, .slice A0_5 l0_5.length c0_5] 27 (0, 0)) (by (with_reducible repeat (first | refine blk_drewN ?_ _ | refine blk_drew ?_ | refine blk_alloc ?_ _)); exact BK230.out) hg (Kd.R_ne HO_4.out BK230.out (by decide))); have n1_ := Aside0.mk (blk_grown (g := gb231) (o := .cells #[.int .i64 a0_0, .int .i64 a0_1, .int .i64 a0_2, .int .i64 a0_3] 23 (0, 0)) (by (with_reducible repeat (first | refine blk_drewN ?_ _ | refine blk_drew ?_ | refine blk_alloc ?_ _)); exact BK231.out) hg (Kd.R_ne HO_4.out BK231.out (by decide))); have n2_ := Aside0.mk (hb); have n3_ := Aside0.mk (ho); clear BK230; clear BK231; clear HB; clear HO_4; have BK230 := n0_; have BK231 := n1_; have HB := n2_; have HO238 := n3_; clear n0_ n1_ n2_ n3_; clear ho hb hg hat))
                go_roundg k2
                case measure => have := HK1.out; have := HK2.out; omega
                case rel => exact ⟨(y236), (wrap64 (x5_1 + 8)), (by first | rfl | (simp; done) | (simp [*]; done)), H', ⟨by have := HK1.out; have := HK2.out; omega⟩, ⟨by (with_reducible repeat (first | apply Kd.R_alloc | apply Kd.R_drewN | apply Kd.R_drew)); exact HO238.out⟩, ⟨by (with_reducible repeat (first | refine blk_drewN ?_ _ | refine blk_drew ?_ | refine blk_alloc ?_ _)); exact BK230.out⟩, ⟨by (with_reducible repeat (first | refine blk_drewN ?_ _ | refine blk_drew ?_ | refine blk_alloc ?_ _)); exact BK231.out⟩, ⟨by repeat (first | (with_reducible first | exact HB.out | apply below_alloc | apply pw_below_drewN | apply below_drew1 | refine below_set ?_ GE230.out | refine below_set ?_ GE231.out) | exact HB.out)⟩⟩
              · rw [if_neg c25] at H
                exact absurd H (by simp)
      · rw [if_neg c10] at H
        have c10b0 : decide (x5_1 < (l0_4.length : Int)) = false := decide_eq_false c10
        clear c10
        have H' := Aside0.mk H
        clear H
        have hnb27 := NB230_231.out
        have hnc27 := NB231_230.out
        have hcz28_0 : wr.cell? ⟨gb230, 0, none⟩ = some (.int .i64 a0_0) := (blk_cell BK230.out 0).trans rfl
        have hcz28_1 : wr.cell? ⟨gb230, 1, none⟩ = some (.int .i64 a0_1) := (blk_cell BK230.out 1).trans rfl
        have hcz28_2 : wr.cell? ⟨gb230, 2, none⟩ = some (.int .i64 a0_2) := (blk_cell BK230.out 2).trans rfl
        have hcz28_3 : wr.cell? ⟨gb230, 3, none⟩ = some (.int .i64 a0_3) := (blk_cell BK230.out 3).trans rfl
        have hcz28_4 : wr.cell? ⟨gb230, 4, none⟩ = some (.slice A0_4 l0_4.length c0_4) := (blk_cell BK230.out 4).trans rfl
        have hcz28_5 : wr.cell? ⟨gb230, 5, none⟩ = some (.slice A0_5 l0_5.length c0_5) := (blk_cell BK230.out 5).trans rfl
        have hfz28_0 := blk_frozen BK230.out 0
        have hfz28_1 := blk_frozen BK230.out 1
        have hfz28_2 := blk_frozen BK230.out 2
        have hfz28_3 := blk_frozen BK230.out 3
        have hfz28_4 := blk_frozen BK230.out 4
        have hfz28_5 := blk_frozen BK230.out 5
        go_wp2
        go_loopg [4, 8] k1 (fun kq v4 v8 w' => ∃ (x4_2 : List Int) (x8_2 : Int), v8 = .int .i64 x8_2 ∧ Aside0 (gunnyref39_Put.l2 kq x4_2 x8_2 a0_0 a0_1 a0_2 a0_3 l0_4 l0_5 = some r) ∧ Aside0 (kq ≤ k1) ∧ Aside0 (Kd.R (Kd.int .u8) 5 w' w.heap.size (fun _ => True) v4 x4_2) ∧ Aside0 (w'.heap[gb230]? = some (.cells #[.int .i64 a0_0, .int .i64 a0_1, .int .i64 a0_2, .int .i64 a0_3, (.slice A0_4 l0_4.length c0_4), (.slice A0_5 l0_5.length c0_5)] 27 (0, 0))) ∧ Aside0 (w'.heap[gb231]? = some (.cells #[.int .i64 a0_0, .int .i64 a0_1, .int .i64 a0_2, .int .i64 a0_3] 23 (0, 0))) ∧ Aside0 (Below w.heap.size w w'))
        case atStart => exact ⟨(x4_1), (0), (by first | rfl | (simp; done) | (simp [*]; done)), H', ⟨Nat.le_refl _⟩, ⟨by (with_reducible repeat (first | apply Kd.R_alloc | apply Kd.R_drewN | apply Kd.R_drew)); exact HO_4.out⟩, ⟨by (with_reducible repeat (first | refine blk_drewN ?_ _ | refine blk_drew ?_ | refine blk_alloc ?_ _)); exact BK230.out⟩, ⟨by (with_reducible repeat (first | refine blk_drewN ?_ _ | refine blk_drew ?_ | refine blk_alloc ?_ _)); exact BK231.out⟩, ⟨by repeat (first | (with_reducible first | exact HB.out | apply below_alloc | apply pw_below_drewN | apply below_drew1 | refine below_set ?_ GE230.out | refine below_set ?_ GE231.out) | exact HB.out)⟩⟩
        case round =>
          clear H'
          try clear c1
          try clear q1
          try clear c2
          try clear p2
          try clear q2
          try clear hx2
          try clear c5
          try clear p6
          try clear c10
          try clear c10b0
          try clear c11
          try clear c13
          try clear c13b0
          try clear c14
          try clear c14b0
          try clear c15
          try clear c16
          try clear c16b0
          try clear q17
          try clear c18
          try clear c19
          try clear c21
          try clear c23
          try clear p23
          try clear q23
          try clear hx23
          try clear c25
          try clear c27
          try clear hcz12_0
          try clear hcz12_1
          try clear hcz12_2
          try clear hcz12_3
          try clear hcz12_4
          try clear hcz12_5
          try clear hcz20_0
          try clear hcz20_1
          try clear hcz20_2
          try clear hcz20_3
          try clear hcz20_4
          try clear hcz20_5
          try clear hcz22_0
          try clear hcz22_1
          try clear hcz22_2
          try clear hcz22_3
          try clear hcz22_4
          try clear hcz22_5
          try clear hcz24_0
          try clear hcz24_1
          try clear hcz24_2
          try clear hcz24_3
          try clear hcz24_4
          try clear hcz24_5
          try clear hcz28_0
          try clear hcz28_1
          try clear hcz28_2
          try clear hcz28_3
          try clear hcz28_4
          try clear hcz28_5
          try clear hcz3_0
          try clear hcz3_1
          try clear hcz3_2
          try clear hcz3_3
          try clear hcz3_4
          try clear hcz3_5
          try clear hcz6_0
          try clear hcz6_1
          try clear hcz6_2
          try clear hcz6_3
          try clear hcz7_0
          try clear hcz7_1
          try clear hcz7_2
          try clear hcz7_3
          try clear hcz7_4
          try clear hcz7_5
          try clear hfz12_0
          try clear hfz12_1
          try clear hfz12_2
          try clear hfz12_3
          try clear hfz12_4
          try clear hfz12_5
          try clear hfz20_0
          try clear hfz20_1
          try clear hfz20_2
          try clear hfz20_3
          try clear hfz20_4
          try clear hfz20_5
          try clear hfz22_0
          try clear hfz22_1
          try clear hfz22_2
          try clear hfz22_3
          try clear hfz22_4
          try clear hfz22_5
          try clear hfz24_0
          try clear hfz24_1
          try clear hfz24_2
          try clear hfz24_3
          try clear hfz24_4
          try clear hfz24_5
          try clear hfz28_0
          try clear hfz28_1
          try clear hfz28_2
          try clear hfz28_3
          try clear hfz28_4
          try clear hfz28_5
          try clear hfz3_0
          try clear hfz3_1
          try clear hfz3_2
          try clear hfz3_3
          try clear hfz3_4
          try clear hfz3_5
          try clear hfz6_0
          try clear hfz6_1
          try clear hfz6_2
          try clear hfz6_3
          try clear hfz7_0
          try clear hfz7_1
          try clear hfz7_2
          try clear hfz7_3
          try clear hfz7_4
          try clear hfz7_5
          try clear hx235_0
          try clear p2
          try clear p235
          try clear p6
          try clear q235
          obtain ⟨x4_2, x8_2, rfl, HA, HK2, HO_4, BK230, BK231, HB⟩ := hrel
          cases gk with
          | zero => exact absurd HA.out (by simp [gunnyref39_Put.l2])
          | succ k2 =>
            have H := HA.out
            clear HA
            simp only [gunnyref39_Put.l2] at H
            by_cases c29 : x8_2 < (l0_5.length : Int)
            · rw [if_pos c29] at H
              have c29b0 : decide (x8_2 < (l0_5.length : Int)) = true := decide_eq_true c29
              clear c29
              by_cases c30 : 0 ≤ x8_2
              · rw [if_pos c30] at H
                have c30b0 : decide (0 ≤ x8_2) = true := decide_eq_true c30
                clear c30
                replace H := Option.bind_eq_some_iff.mp H
                obtain ⟨⟨t241, t242, t243, t244⟩, A310, H⟩ := H
                replace H : (if x4_2.length < 140737488355328 then ((some (x4_2 ++ [((rd_T39 l0_5 x8_2).f0) % 256] : List Int)).bind fun y246 => (if t241 = true then (if y246.length < 140737488355328 then (gunnyref39_Put.j3 k2 (y246 ++ [((rd_T39 l0_5 x8_2).f1) % 256]) x8_2 a0_0 a0_1 a0_2 a0_3 l0_4 l0_5 ((rd_T39 l0_5 x8_2).f0) ((rd_T39 l0_5 x8_2).f1) ((rd_T39 l0_5 x8_2).f2) ((rd_T39 l0_5 x8_2).f3) ((rd_T39 l0_5 x8_2).f4) t241 t242 t243 t244) else (none)) else (gunnyref39_Put.j3 k2 y246 x8_2 a0_0 a0_1 a0_2 a0_3 l0_4 l0_5 ((rd_T39 l0_5 x8_2).f0) ((rd_T39 l0_5 x8_2).f1) ((rd_T39 l0_5 x8_2).f2) ((rd_T39 l0_5 x8_2).f3) ((rd_T39 l0_5 x8_2).f4) t241 t242 t243 t244))) else (none)) = some r := H
                have A31 := Aside0.mk A310
                clear A310
                by_cases c32 : x4_2.length < 140737488355328
                · rw [if_pos c32] at H
                  have LMc32 := Aside0.mk c32
                  clear c32
                  obtain ⟨y246, hy246⟩ : ∃ y_ : List Int, y_ = (x4_2 ++ [((rd_T39 l0_5 x8_2).f0) % 256]) := ⟨_, rfl⟩
                  replace H : (if t241 = true then (if y246.length < 140737488355328 then (gunnyref39_Put.j3 k2 (y246 ++ [((rd_T39 l0_5 x8_2).f1) % 256]) x8_2 a0_0 a0_1 a0_2 a0_3 l0_4 l0_5 ((rd_T39 l0_5 x8_2).f0) ((rd_T39 l0_5 x8_2).f1) ((rd_T39 l0_5 x8_2).f2) ((rd_T39 l0_5 x8_2).f3) ((rd_T39 l0_5 x8_2).f4) t241 t242 t243 t244) else (none)) else (gunnyref39_Put.j3 k2 y246 x8_2 a0_0 a0_1 a0_2 a0_3 l0_4 l0_5 ((rd_T39 l0_5 x8_2).f0) ((rd_T39 l0_5 x8_2).f1) ((rd_T39 l0_5 x8_2).f2) ((rd_T39 l0_5 x8_2).f3) ((rd_T39 l0_5 x8_2).f4) t241 t242 t243 t244)) = some r := by first | (rw [hy246]; with_reducible exact H) | (have H2_ := (Option.bind_some _ _).symm.trans H; rw [hy246]; with_reducible exact H2_) | (have H2_ := (Option.bind_some _ _).symm.trans H; with_reducible exact H2_) | with_reducible exact H | (rw [hy246]; exact H) | exact H
                  have Ny246 := Aside0.mk hy246
                  clear hy246
                  have HC33 := Aside0.mk H
                  clear H
                  have hnb34 := NB230_231.out
                  have hnc34 := NB231_230.out
                  have hcz35_0 : wr.cell? ⟨gb230, 0, none⟩ = some (.int .i64 a0_0) := (blk_cell BK230.out 0).trans rfl
                  have hcz35_1 : wr.cell? ⟨gb230, 1, none⟩ = some (.int .i64 a0_1) := (blk_cell BK230.out 1).trans rfl
                  have hcz35_2 : wr.cell? ⟨gb230, 2, none⟩ = some (.int .i64 a0_2) := (blk_cell BK230.out 2).trans rfl
                  have hcz35_3 : wr.cell? ⟨gb230, 3, none⟩ = some (.int .i64 a0_3) := (blk_cell BK230.out 3).trans rfl
                  have hcz35_4 : wr.cell? ⟨gb230, 4, none⟩ = some (.slice A0_4 l0_4.length c0_4) := (blk_cell BK230.out 4).trans rfl
                  have hcz35_5 : wr.cell? ⟨gb230, 5, none⟩ = some (.slice A0_5 l0_5.length c0_5) := (blk_cell BK230.out 5).trans rfl
                  have hfz35_0 := blk_frozen BK230.out 0
                  have hfz35_1 := blk_frozen BK230.out 1
                  have hfz35_2 := blk_frozen BK230.out 2
                  have hfz35_3 := blk_frozen BK230.out 3
                  have hfz35_4 := blk_frozen BK230.out 4
                  have hfz35_5 := blk_frozen BK230.out 5
                  have p239 : 0 ≤ (x8_2 : Int) := of_decide_eq_true (by first | (with_reducible assumption) | assumption)
                  have q239 : x8_2 < (l0_5.length : Int) := of_decide_eq_true (by first | (with_reducible assumption) | assumption)
                  obtain ⟨ad239, A239_4, c239_4, e239, hx239_0, hx239_1, hx239_2, hx239_3, hx239_4, hl239_4, hi239_4⟩ := at_T39 HR0_5.out x8_2 p239 q239
                  cases e239
                  replace hx239_0 := (HB.out.cell (World.block_lt_of_cell? w _ hx239_0)).trans hx239_0
                  replace hx239_1 := (HB.out.cell (World.block_lt_of_cell? w _ hx239_1)).trans hx239_1
                  replace hx239_2 := (HB.out.cell (World.block_lt_of_cell? w _ hx239_2)).trans hx239_2
                  replace hx239_3 := (HB.out.cell (World.block_lt_of_cell? w _ hx239_3)).trans hx239_3
                  replace hx239_4 := (HB.out.cell (World.block_lt_of_cell? w _ hx239_4)).trans hx239_4
                  have HR239_4 := Aside0.mk hi239_4
                  have HC239_4 := Aside0.mk hl239_4
                  clear hi239_4 hl239_4
                  replace p239 := eq_true p239
                  replace q239 := eq_true q239
                  go_upto_if 94 with (first | ((with_reducible refine gate_dst (N := 9) rfl ?_); refine box_event ?hg (N := 9) ?hd (cs := #[.int .i64 0, .int .i64 0, .int .i64 0, .int .u64 0, .slice none 0 0]) (t := 39) ?hr ?_; (case hd => rfl); (case hg => rfl); (case hr => first | (go_simp; done) | (go_simp; rfl)); intro gb240 hg w36 hbox hb; have n0_ := Aside0.mk (Kd.R_below (by (with_reducible repeat (first | apply Kd.R_alloc | apply Kd.R_drewN | apply Kd.R_drew)); exact HO_4.out) hb); have n1_ := Aside0.mk (blk_below (g := gb230) (o := .cells #[.int .i64 a0_0, .int .i64 a0_1, .int .i64 a0_2, .int .i64 a0_3, .slice A0_4 l0_4.length c0_4, .slice (some ad239) l0_5.length c0_5] 27 (0, 0)) (by (with_reducible repeat (first | refine blk_drewN ?_ _ | refine blk_drew ?_ | refine blk_alloc ?_ _)); exact BK230.out) hb); have n2_ := Aside0.mk (blk_below (g := gb231) (o := .cells #[.int .i64 a0_0, .int .i64 a0_1, .int .i64 a0_2, .int .i64 a0_3] 23 (0, 0)) (by (with_reducible repeat (first | refine blk_drewN ?_ _ | refine blk_drew ?_ | refine blk_alloc ?_ _)); exact BK231.out) hb); have n3_ := Aside0.mk (below_step (by repeat (first | (with_reducible first | exact HB.out | apply below_alloc | apply pw_below_drewN | apply below_drew1 | refine below_set ?_ GE230.out | refine below_set ?_ GE231.out) | exact HB.out)) hb); have n4_ := Aside0.mk (hbox); have n5_ := Aside0.mk ((by rw [hg]; exact (below_size (by repeat (first | (with_reducible first | exact HB.out | apply below_alloc | apply pw_below_drewN | apply below_drew1 | refine below_set ?_ GE230.out | refine below_set ?_ GE231.out) | exact HB.out))) : w.heap.size ≤ gb240)); have n6_ := Aside0.mk ((by rw [hg]; exact (below_size (by repeat (first | (with_reducible first | exact HB.out | apply below_alloc | apply pw_below_drewN | apply below_drew1 | refine below_set ?_ GE230.out | refine below_set ?_ GE231.out) | exact HB.out))) : w.heap.size ≤ gb240)); have n7_ := Aside0.mk ((by rw [hg]; exact Nat.ne_of_lt (blk_lt (g := gb230) (o := .cells #[.int .i64 a0_0, .int .i64 a0_1, .int .i64 a0_2, .int .i64 a0_3, .slice A0_4 l0_4.length c0_4, .slice (some ad239) l0_5.length c0_5] 27 (0, 0)) (by (with_reducible repeat (first | refine blk_drewN ?_ _ | refine blk_drew ?_ | refine blk_alloc ?_ _)); exact BK230.out)) : gb230 ≠ gb240)); have n8_ := Aside0.mk ((by rw [hg]; exact Nat.ne_of_gt (blk_lt (g := gb230) (o := .cells #[.int .i64 a0_0, .int .i64 a0_1, .int .i64 a0_2, .int .i64 a0_3, .slice A0_4 l0_4.length c0_4, .slice (some ad239) l0_5.length c0_5] 27 (0, 0)) (by (with_reducible repeat (first | refine blk_drewN ?_ _ | refine blk_drew ?_ | refine blk_alloc ?_ _)); exact BK230.out)) : gb240 ≠ gb230)); have n9_ := Aside0.mk ((by rw [hg]; exact Nat.ne_of_lt (blk_lt (g := gb231) (o := .cells #[.int .i64 a0_0, .int .i64 a0_1, .int .i64 a0_2, .int .i64 a0_3] 23 (0, 0)) (by (with_reducible repeat (first | refine blk_drewN ?_ _ | refine blk_drew ?_ | refine blk_alloc ?_ _)); exact BK231.out)) : gb231 ≠ gb240)); have n10_ := Aside0.mk ((by rw [hg]; exact Nat.ne_of_gt (blk_lt (g := gb231) (o := .cells #[.int .i64 a0_0, .int .i64 a0_1, .int .i64 a0_2, .int .i64 a0_3] 23 (0, 0)) (by (with_reducible repeat (first | refine blk_drewN ?_ _ | refine blk_drew ?_ | refine blk_alloc ?_ _)); exact BK231.out)) : gb240 ≠ gb231)); clear HO_4; clear BK230; clear BK231; clear HB; have HO_4 := n0_; have BK230 := n1_; have BK231 := n2_; have HB := n3_; have BK240 := n4_; have GW240 := n5_; have GE240 := n6_; have NB230_240 := n7_; have NB240_230 := n8_; have NB231_240 := n9_; have NB240_231 := n10_; clear n0_ n1_ n2_ n3_ n4_ n5_ n6_ n7_ n8_ n9_ n10_; clear hb hbox hg; have hnb37 := NB240_230.out; have hnc37 := NB230_240.out; have hnb38 := NB240_231.out; have hnc38 := NB231_240.out; have hcz39_0 : w36.cell? ⟨gb240, 0, none⟩ = some (.int .i64 0) := (blk_cell BK240.out 0).trans rfl; have hcz39_1 : w36.cell? ⟨gb240, 1, none⟩ = some (.int .i64 0) := (blk_cell BK240.out 1).trans rfl; have hcz39_2 : w36.cell? ⟨gb240, 2, none⟩ = some (.int .i64 0) := (blk_cell BK240.out 2).trans rfl; have hcz39_3 : w36.cell? ⟨gb240, 3, none⟩ = some (.int .u64 0) := (blk_cell BK240.out 3).trans rfl; have hcz39_4 : w36.cell? ⟨gb240, 4, none⟩ = some (.slice none 0 0) := (blk_cell BK240.out 4).trans rfl; have hfz39_0 := blk_frozen BK240.out 0; have hfz39_1 := blk_frozen BK240.out 1; have hfz39_2 := blk_frozen BK240.out 2; have hfz39_3 := blk_frozen BK240.out 3; have hfz39_4 := blk_frozen BK240.out 4) | ((with_reducible refine gate_callee (f := 29) rfl ?_); refine goesL_ (some 86) rfl rfl Try.func29 (by kernel_rfl) rfl #[.int .i64 ((rd_T39 l0_5 x8_2).f0)] rfl (by (try simp only [List.map_toArray, List.map_cons, List.map_nil]); first | done | rfl | (simp only [List.length_drop, List.length_take]; rfl)) ?_; (with_reducible refine (gunnyref39_Has.calls k2 ((rd_T39 l0_5 x8_2).f0) t241 t242 t243 t244 _ A31.out).mono ?_); rintro e w40 ⟨rfl, hb⟩; refine ⟨_, rfl, ?_⟩; have n0_ := Aside0.mk (Kd.R_below (by (with_reducible repeat (first | apply Kd.R_alloc | apply Kd.R_drewN | apply Kd.R_drew)); exact (Kd.R_mono (Kd.R_far (p := ⟨gb240, 4, none⟩) (Kd.R_far (p := ⟨gb240, 3, none⟩) (Kd.R_far (p := ⟨gb240, 2, none⟩) (Kd.R_far (p := ⟨gb240, 1, none⟩) (Kd.R_far (p := ⟨gb240, 0, none⟩) (Kd.R_types HO_4.out BK240.out (by decide)) (fun _ hk => hk.2) (.int .i64 ((rd_T39 l0_5 x8_2).f0))) (fun _ hk => hk.2) (.int .i64 ((rd_T39 l0_5 x8_2).f1))) (fun _ hk => hk.2) (.int .i64 ((rd_T39 l0_5 x8_2).f2))) (fun _ hk => hk.2) (.int .u64 ((rd_T39 l0_5 x8_2).f3))) (fun _ hk => hk.2) (.slice A239_4 ((rd_T39 l0_5 x8_2).f4).length c239_4)) (fun _ h_ => h_.1))) hb); have n1_ := Aside0.mk (blk_below (g := gb230) (o := .cells #[.int .i64 a0_0, .int .i64 a0_1, .int .i64 a0_2, .int .i64 a0_3, .slice A0_4 l0_4.length c0_4, .slice (some ad239) l0_5.length c0_5] 27 (0, 0)) (by (with_reducible repeat (first | refine blk_drewN ?_ _ | refine blk_drew ?_ | refine blk_alloc ?_ _)); refine blk_far ?_ NB230_240.out _; (with_reducible repeat (first | refine blk_drewN ?_ _ | refine blk_drew ?_ | refine blk_alloc ?_ _)); refine blk_far ?_ NB230_240.out _; (with_reducible repeat (first | refine blk_drewN ?_ _ | refine blk_drew ?_ | refine blk_alloc ?_ _)); refine blk_far ?_ NB230_240.out _; (with_reducible repeat (first | refine blk_drewN ?_ _ | refine blk_drew ?_ | refine blk_alloc ?_ _)); refine blk_far ?_ NB230_240.out _; (with_reducible repeat (first | refine blk_drewN ?_ _ | refine blk_drew ?_ | refine blk_alloc ?_ _)); refine blk_far ?_ NB230_240.out _; (with_reducible repeat (first | refine blk_drewN ?_ _ | refine blk_drew ?_ | refine blk_alloc ?_ _)); exact BK230.out) hb); have n2_ := Aside0.mk (blk_below (g := gb231) (o := .cells #[.int .i64 a0_0, .int .i64 a0_1, .int .i64 a0_2, .int .i64 a0_3] 23 (0, 0)) (by (with_reducible repeat (first | refine blk_drewN ?_ _ | refine blk_drew ?_ | refine blk_alloc ?_ _)); refine blk_far ?_ NB231_240.out _; (with_reducible repeat (first | refine blk_drewN ?_ _ | refine blk_drew ?_ | refine blk_alloc ?_ _)); refine blk_far ?_ NB231_240.out _; (with_reducible repeat (first | refine blk_drewN ?_ _ | refine blk_drew ?_ | refine blk_alloc ?_ _)); refine blk_far ?_ NB231_240.out _; (with_reducible repeat (first | refine blk_drewN ?_ _ | refine blk_drew ?_ | refine blk_alloc ?_ _)); refine blk_far ?_ NB231_240.out _; (with_reducible repeat (first | refine blk_drewN ?_ _ | refine blk_drew ?_ | refine blk_alloc ?_ _)); refine blk_far ?_ NB231_240.out _; (with_reducible repeat (first | refine blk_drewN ?_ _ | refine blk_drew ?_ | refine blk_alloc ?_ _)); exact BK231.out) hb); have n3_ := Aside0.mk (blk_below (g := gb240) (o := .cells #[.int .i64 ((rd_T39 l0_5 x8_2).f0), .int .i64 ((rd_T39 l0_5 x8_2).f1), .int .i64 ((rd_T39 l0_5 x8_2).f2), .int .u64 ((rd_T39 l0_5 x8_2).f3), .slice A239_4 ((rd_T39 l0_5 x8_2).f4).length c239_4] 39 (0, 0)) (by (with_reducible repeat (first | refine blk_drewN ?_ _ | refine blk_drew ?_ | refine blk_alloc ?_ _)); refine blk_put (cs := #[.int .i64 ((rd_T39 l0_5 x8_2).f0), .int .i64 ((rd_T39 l0_5 x8_2).f1), .int .i64 ((rd_T39 l0_5 x8_2).f2), .int .u64 ((rd_T39 l0_5 x8_2).f3), .slice none 0 0]) ?_ 4 _ rfl; (with_reducible repeat (first | refine blk_drewN ?_ _ | refine blk_drew ?_ | refine blk_alloc ?_ _)); refine blk_put (cs := #[.int .i64 ((rd_T39 l0_5 x8_2).f0), .int .i64 ((rd_T39 l0_5 x8_2).f1), .int .i64 ((rd_T39 l0_5 x8_2).f2), .int .u64 0, .slice none 0 0]) ?_ 3 _ rfl; (with_reducible repeat (first | refine blk_drewN ?_ _ | refine blk_drew ?_ | refine blk_alloc ?_ _)); refine blk_put (cs := #[.int .i64 ((rd_T39 l0_5 x8_2).f0), .int .i64 ((rd_T39 l0_5 x8_2).f1), .int .i64 0, .int .u64 0, .slice none 0 0]) ?_ 2 _ rfl; (with_reducible repeat (first | refine blk_drewN ?_ _ | refine blk_drew ?_ | refine blk_alloc ?_ _)); refine blk_put (cs := #[.int .i64 ((rd_T39 l0_5 x8_2).f0), .int .i64 0, .int .i64 0, .int .u64 0, .slice none 0 0]) ?_ 1 _ rfl; (with_reducible repeat (first | refine blk_drewN ?_ _ | refine blk_drew ?_ | refine blk_alloc ?_ _)); refine blk_put (cs := #[.int .i64 0, .int .i64 0, .int .i64 0, .int .u64 0, .slice none 0 0]) ?_ 0 _ rfl; (with_reducible repeat (first | refine blk_drewN ?_ _ | refine blk_drew ?_ | refine blk_alloc ?_ _)); exact BK240.out) hb); have n4_ := Aside0.mk (below_step (by repeat (first | (with_reducible first | exact HB.out | apply below_alloc | apply pw_below_drewN | apply below_drew1 | refine below_set ?_ GE230.out | refine below_set ?_ GE231.out | refine below_set ?_ GE240.out) | exact HB.out)) hb); clear HO_4; clear BK230; clear BK231; clear BK240; clear HB; have HO_4 := n0_; have BK230 := n1_; have BK231 := n2_; have BK240 := n3_; have HB := n4_; clear n0_ n1_ n2_ n3_ n4_; (try clear hb); (try clear hb2); (try clear hk); (try clear hi)) | ((with_reducible refine gate_dst (N := 10) rfl ?_); refine box_event ?hg (N := 10) ?hd (cs := #[.bool false, .bool false, .bool false, .bool false]) (t := 62) ?hr ?_; (case hd => rfl); (case hg => rfl); (case hr => first | (go_simp; done) | (go_simp; rfl)); intro gb245 hg w41 hbox hb; have n0_ := Aside0.mk (Kd.R_below (by (with_reducible repeat (first | apply Kd.R_alloc | apply Kd.R_drewN | apply Kd.R_drew)); exact HO_4.out) hb); have n1_ := Aside0.mk (blk_below (g := gb230) (o := .cells #[.int .i64 a0_0, .int .i64 a0_1, .int .i64 a0_2, .int .i64 a0_3, .slice A0_4 l0_4.length c0_4, .slice (some ad239) l0_5.length c0_5] 27 (0, 0)) (by (with_reducible repeat (first | refine blk_drewN ?_ _ | refine blk_drew ?_ | refine blk_alloc ?_ _)); exact BK230.out) hb); have n2_ := Aside0.mk (blk_below (g := gb231) (o := .cells #[.int .i64 a0_0, .int .i64 a0_1, .int .i64 a0_2, .int .i64 a0_3] 23 (0, 0)) (by (with_reducible repeat (first | refine blk_drewN ?_ _ | refine blk_drew ?_ | refine blk_alloc ?_ _)); exact BK231.out) hb); have n3_ := Aside0.mk (blk_below (g := gb240) (o := .cells #[.int .i64 ((rd_T39 l0_5 x8_2).f0), .int .i64 ((rd_T39 l0_5 x8_2).f1), .int .i64 ((rd_T39 l0_5 x8_2).f2), .int .u64 ((rd_T39 l0_5 x8_2).f3), .slice A239_4 ((rd_T39 l0_5 x8_2).f4).length c239_4] 39 (0, 0)) (by (with_reducible repeat (first | refine blk_drewN ?_ _ | refine blk_drew ?_ | refine blk_alloc ?_ _)); exact BK240.out) hb); have n4_ := Aside0.mk (below_step (by repeat (first | (with_reducible first | exact HB.out | apply below_alloc | apply pw_below_drewN | apply below_drew1 | refine below_set ?_ GE230.out | refine below_set ?_ GE231.out | refine below_set ?_ GE240.out) | exact HB.out)) hb); have n5_ := Aside0.mk (hbox); have n6_ := Aside0.mk ((by rw [hg]; exact (below_size (by repeat (first | (with_reducible first | exact HB.out | apply below_alloc | apply pw_below_drewN | apply below_drew1 | refine below_set ?_ GE230.out | refine below_set ?_ GE231.out | refine below_set ?_ GE240.out) | exact HB.out))) : w.heap.size ≤ gb245)); have n7_ := Aside0.mk ((by rw [hg]; exact (below_size (by repeat (first | (with_reducible first | exact HB.out | apply below_alloc | apply pw_below_drewN | apply below_drew1 | refine below_set ?_ GE230.out | refine below_set ?_ GE231.out | refine below_set ?_ GE240.out) | exact HB.out))) : w.heap.size ≤ gb245)); have n8_ := Aside0.mk ((by rw [hg]; exact Nat.ne_of_lt (blk_lt (g := gb230) (o := .cells #[.int .i64 a0_0, .int .i64 a0_1, .int .i64 a0_2, .int .i64 a0_3, .slice A0_4 l0_4.length c0_4, .slice (some ad239) l0_5.length c0_5] 27 (0, 0)) (by (with_reducible repeat (first | refine blk_drewN ?_ _ | refine blk_drew ?_ | refine blk_alloc ?_ _)); exact BK230.out)) : gb230 ≠ gb245)); have n9_ := Aside0.mk ((by rw [hg]; exact Nat.ne_of_gt (blk_lt (g := gb230) (o := .cells #[.int .i64 a0_0, .int .i64 a0_1, .int .i64 a0_2, .int .i64 a0_3, .slice A0_4 l0_4.length c0_4, .slice (some ad239) l0_5.length c0_5] 27 (0, 0)) (by (with_reducible repeat (first | refine blk_drewN ?_ _ | refine blk_drew ?_ | refine blk_alloc ?_ _)); exact BK230.out)) : gb245 ≠ gb230)); have n10_ := Aside0.mk ((by rw [hg]; exact Nat.ne_of_lt (blk_lt (g := gb231) (o := .cells #[.int .i64 a0_0, .int .i64 a0_1, .int .i64 a0_2, .int .i64 a0_3] 23 (0, 0)) (by (with_reducible repeat (first | refine blk_drewN ?_ _ | refine blk_drew ?_ | refine blk_alloc ?_ _)); exact BK231.out)) : gb231 ≠ gb245)); have n11_ := Aside0.mk ((by rw [hg]; exact Nat.ne_of_gt (blk_lt (g := gb231) (o := .cells #[.int .i64 a0_0, .int .i64 a0_1, .int .i64 a0_2, .int .i64 a0_3] 23 (0, 0)) (by (with_reducible repeat (first | refine blk_drewN ?_ _ | refine blk_drew ?_ | refine blk_alloc ?_ _)); exact BK231.out)) : gb245 ≠ gb231)); have n12_ := Aside0.mk ((by rw [hg]; exact Nat.ne_of_lt (blk_lt (g := gb240) (o := .cells #[.int .i64 ((rd_T39 l0_5 x8_2).f0), .int .i64 ((rd_T39 l0_5 x8_2).f1), .int .i64 ((rd_T39 l0_5 x8_2).f2), .int .u64 ((rd_T39 l0_5 x8_2).f3), .slice A239_4 ((rd_T39 l0_5 x8_2).f4).length c239_4] 39 (0, 0)) (by (with_reducible repeat (first | refine blk_drewN ?_ _ | refine blk_drew ?_ | refine blk_alloc ?_ _)); exact BK240.out)) : gb240 ≠ gb245)); have n13_ := Aside0.mk ((by rw [hg]; exact Nat.ne_of_gt (blk_lt (g := gb240) (o := .cells #[.int .i64 ((rd_T39 l0_5 x8_2).f0), .int .i64 ((rd_T39 l0_5 x8_2).f1), .int .i64 ((rd_T39 l0_5 x8_2).f2), .int .u64 ((rd_T39 l0_5 x8_2).f3), .slice A239_4 ((rd_T39 l0_5 x8_2).f4).length c239_4] 39 (0, 0)) (by (with_reducible repeat (first | refine blk_drewN ?_ _ | refine blk_drew ?_ | refine blk_alloc ?_ _)); exact BK240.out)) : gb245 ≠ gb240)); clear HO_4; clear BK230; clear BK231; clear BK240; clear HB; have HO_4 := n0_; have BK230 := n1_; have BK231 := n2_; have BK240 := n3_; have HB := n4_; have BK245 := n5_; have GW245 := n6_; have GE245 := n7_; have NB230_245 := n8_; have NB245_230 := n9_; have NB231_245 := n10_; have NB245_231 := n11_; have NB240_245 := n12_; have NB245_240 := n13_; clear n0_ n1_ n2_ n3_ n4_ n5_ n6_ n7_ n8_ n9_ n10_ n11_ n12_ n13_; clear hb hbox hg; have hnb42 := NB245_230.out; have hnc42 := NB230_245.out; have hnb43 := NB245_231.out; have hnc43 := NB231_245.out; have hnb44 := NB245_240.out; have hnc44 := NB240_245.out; have hcz45_0 : w41.cell? ⟨gb245, 0, none⟩ = some (.bool false) := (blk_cell BK245.out 0).trans rfl; have hcz45_1 : w41.cell? ⟨gb245, 1, none⟩ = some (.bool false) := (blk_cell BK245.out 1).trans rfl; have hcz45_2 : w41.cell? ⟨gb245, 2, none⟩ = some (.bool false) := (blk_cell BK245.out 2).trans rfl; have hcz45_3 : w41.cell? ⟨gb245, 3, none⟩ = some (.bool false) := (blk_cell BK245.out 3).trans rfl; have hfz45_0 := blk_frozen BK245.out 0; have hfz45_1 := blk_frozen BK245.out 1; have hfz45_2 := blk_frozen BK245.out 2; have hfz45_3 := blk_frozen BK245.out 3; have hcz46_0 : w41.cell? ⟨gb240, 0, none⟩ = some (.int .i64 ((rd_T39 l0_5 x8_2).f0)) := (blk_cell BK240.out 0).trans rfl; have hcz46_1 : w41.cell? ⟨gb240, 1, none⟩ = some (.int .i64 ((rd_T39 l0_5 x8_2).f1)) := (blk_cell BK240.out 1).trans rfl; have hcz46_2 : w41.cell? ⟨gb240, 2, none⟩ = some (.int .i64 ((rd_T39 l0_5 x8_2).f2)) := (blk_cell BK240.out 2).trans rfl; have hcz46_3 : w41.cell? ⟨gb240, 3, none⟩ = some (.int .u64 ((rd_T39 l0_5 x8_2).f3)) := (blk_cell BK240.out 3).trans rfl; have hcz46_4 : w41.cell? ⟨gb240, 4, none⟩ = some (.slice A239_4 ((rd_T39 l0_5 x8_2).f4).length c239_4) := (blk_cell BK240.out 4).trans rfl; have hfz46_0 := blk_frozen BK240.out 0; have hfz46_1 := blk_frozen BK240.out 1; have hfz46_2 := blk_frozen BK240.out 2; have hfz46_3 := blk_frozen BK240.out 3; have hfz46_4 := blk_frozen BK240.out 4) | ((with_reducible refine gate_builtin (b := .append) (xs := #[.tmp 87, .tmp 91]) rfl ?_); at_builtin; refine Kd.R_append (Kd.int .u8) (w0 := w) w.heap.size rfl (.tmp 87) (.tmp 91) 31 5 (.int .u8 0) 1 rfl Try.underlying31 info5 rfl (by decide) (by omega) u4 x4_2 (((rd_T39 l0_5 x8_2).f0) % 256) [.int .u8 (((rd_T39 l0_5 x8_2).f0) % 256)] (fun _ => True) (fun _ => False) rfl (by first | (go_simp; done) | (go_simp; rfl)) ?aP (fun _ hk => hk.elim) ?aF ?aO ?aB ?aS ?aL ?_; (case aP => exact rfl); (case aB => exact (by repeat (first | (with_reducible first | exact HB.out | apply below_alloc | apply pw_below_drewN | apply below_drew1 | refine below_set ?_ GE230.out | refine below_set ?_ GE231.out | refine below_set ?_ GE240.out | refine below_set ?_ GE245.out) | exact HB.out))); (case aF => exact (fun _ _ => trivial)); (case aO => exact (by (with_reducible repeat (first | apply Kd.R_alloc | apply Kd.R_drewN | apply Kd.R_drew)); exact Kd.R_mono (Kd.R_far (p := ⟨gb245, 3, none⟩) (Kd.R_far (p := ⟨gb245, 2, none⟩) (Kd.R_far (p := ⟨gb245, 1, none⟩) (Kd.R_far (p := ⟨gb245, 0, none⟩) (Kd.R_types HO_4.out BK245.out (by decide)) (fun _ hk => hk.2) (.bool t241)) (fun _ hk => hk.2) (.bool t242)) (fun _ hk => hk.2) (.bool t243)) (fun _ hk => hk.2) (.bool t244)) (fun _ hk => trivial))); (case aS => exact (below_size (by repeat (first | (with_reducible first | exact HB.out | apply below_alloc | apply pw_below_drewN | apply below_drew1 | refine below_set ?_ GE230.out | refine below_set ?_ GE231.out | refine below_set ?_ GE240.out | refine below_set ?_ GE245.out) | exact HB.out)))); (case aL => have := LMc32.out; omega); intro v247 w47 ho hb hg hat; rw [← Ny246.out] at ho; have n0_ := Aside0.mk (blk_grown (g := gb230) (o := .cells #[.int .i64 a0_0, .int .i64 a0_1, .int .i64 a0_2, .int .i64 a0_3, .slice A0_4 l0_4.length c0_4, .slice (some ad239) l0_5.length c0_5] 27 (0, 0)) (by (with_reducible repeat (first | refine blk_drewN ?_ _ | refine blk_drew ?_ | refine blk_alloc ?_ _)); refine blk_far ?_ NB230_245.out _; (with_reducible repeat (first | refine blk_drewN ?_ _ | refine blk_drew ?_ | refine blk_alloc ?_ _)); refine blk_far ?_ NB230_245.out _; (with_reducible repeat (first | refine blk_drewN ?_ _ | refine blk_drew ?_ | refine blk_alloc ?_ _)); refine blk_far ?_ NB230_245.out _; (with_reducible repeat (first | refine blk_drewN ?_ _ | refine blk_drew ?_ | refine blk_alloc ?_ _)); refine blk_far ?_ NB230_245.out _; (with_reducible repeat (first | refine blk_drewN ?_ _ | refine blk_drew ?_ | refine blk_alloc ?_ _)); exact BK230.out) hg (Kd.R_ne HO_4.out BK230.out (by decide))); have n1_ := Aside0.mk (blk_grown (g := gb231) (o := .cells #[.int .i64 a0_0, .int .i64 a0_1, .int .i64 a0_2, .int .i64 a0_3] 23 (0, 0)) (by (with_reducible repeat (first | refine blk_drewN ?_ _ | refine blk_drew ?_ | refine blk_alloc ?_ _)); refine blk_far ?_ NB231_245.out _; (with_reducible repeat (first | refine blk_drewN ?_ _ | refine blk_drew ?_ | refine blk_alloc ?_ _)); refine blk_far ?_ NB231_245.out _; (with_reducible repeat (first | refine blk_drewN ?_ _ | refine blk_drew ?_ | refine blk_alloc ?_ _)); refine blk_far ?_ NB231_245.out _; (with_reducible repeat (first | refine blk_drewN ?_ _ | refine blk_drew ?_ | refine blk_alloc ?_ _)); refine blk_far ?_ NB231_245.out _; (with_reducible repeat (first | refine blk_drewN ?_ _ | refine blk_drew ?_ | refine blk_alloc ?_ _)); exact BK231.out) hg (Kd.R_ne HO_4.out BK231.out (by decide))); have n2_ := Aside0.mk (blk_grown (g := gb240) (o := .cells #[.int .i64 ((rd_T39 l0_5 x8_2).f0), .int .i64 ((rd_T39 l0_5 x8_2).f1), .int .i64 ((rd_T39 l0_5 x8_2).f2), .int .u64 ((rd_T39 l0_5 x8_2).f3), .slice A239_4 ((rd_T39 l0_5 x8_2).f4).length c239_4] 39 (0, 0)) (by (with_reducible repeat (first | refine blk_drewN ?_ _ | refine blk_drew ?_ | refine blk_alloc ?_ _)); refine blk_far ?_ NB240_245.out _; (with_reducible repeat (first | refine blk_drewN ?_ _ | refine blk_drew ?_ | refine blk_alloc ?_ _)); refine blk_far ?_ NB240_245.out _; (with_reducible repeat (first | refine blk_drewN ?_ _ | refine blk_drew ?_ | refine blk_alloc ?_ _)); refine blk_far ?_ NB240_245.out _; (with_reducible repeat (first | refine blk_drewN ?_ _ | refine blk_drew ?_ | refine blk_alloc ?_ _)); refine blk_far ?_ NB240_245.out _; (with_reducible repeat (first | refine blk_drewN ?_ _ | refine blk_drew ?_ | refine blk_alloc ?_ _)); exact BK240.out) hg (Kd.R_ne HO_4.out BK240.out (by decide))); have n3_ := Aside0.mk (blk_grown (g := gb245) (o := .cells #[.bool t241, .bool t242, .bool t243, .bool t244] 62 (0, 0)) (by (with_reducible repeat (first | refine blk_drewN ?_ _ | refine blk_drew ?_ | refine blk_alloc ?_ _)); refine blk_put (cs := #[.bool t241, .bool t242, .bool t243, .bool false]) ?_ 3 _ rfl; (with_reducible repeat (first | refine blk_drewN ?_ _ | refine blk_drew ?_ | refine blk_alloc ?_ _)); refine blk_put (cs := #[.bool t241, .bool t242, .bool false, .bool false]) ?_ 2 _ rfl; (with_reducible repeat (first | refine blk_drewN ?_ _ | refine blk_drew ?_ | refine blk_alloc ?_ _)); refine blk_put (cs := #[.bool t241, .bool false, .bool false, .bool false]) ?_ 1 _ rfl; (with_reducible repeat (first | refine blk_drewN ?_ _ | refine blk_drew ?_ | refine blk_alloc ?_ _)); refine blk_put (cs := #[.bool false, .bool false, .bool false, .bool false]) ?_ 0 _ rfl; (with_reducible repeat (first | refine blk_drewN ?_ _ | refine blk_drew ?_ | refine blk_alloc ?_ _)); exact BK245.out) hg (Kd.R_ne HO_4.out BK245.out (by decide))); have n4_ := Aside0.mk (hb); have n5_ := Aside0.mk (ho); clear BK230; clear BK231; clear BK240; clear BK245; clear HB; clear HO_4; have BK230 := n0_; have BK231 := n1_; have BK240 := n2_; have BK245 := n3_; have HB := n4_; have HO248 := n5_; clear n0_ n1_ n2_ n3_ n4_ n5_; clear ho hb hg hat; have hcz48_0 : w47.cell? ⟨gb245, 0, none⟩ = some (.bool t241) := (blk_cell BK245.out 0).trans rfl; have hcz48_1 : w47.cell? ⟨gb245, 1, none⟩ = some (.bool t242) := (blk_cell BK245.out 1).trans rfl; have hcz48_2 : w47.cell? ⟨gb245, 2, none⟩ = some (.bool t243) := (blk_cell BK245.out 2).trans rfl; have hcz48_3 : w47.cell? ⟨gb245, 3, none⟩ = some (.bool t244) := (blk_cell BK245.out 3).trans rfl; have hfz48_0 := blk_frozen BK245.out 0; have hfz48_1 := blk_frozen BK245.out 1; have hfz48_2 := blk_frozen BK245.out 2; have hfz48_3 := blk_frozen BK245.out 3))
                  (try simp only [Act.put, List.setIfInBounds_toArray, List.set_cons_zero, List.set_cons_succ])
                  go_cut [4] (fun v4 wc => ∃ (kq : Nat) (x4_32 : List Int), Aside0 (gunnyref39_Put.j3 kq x4_32 x8_2 a0_0 a0_1 a0_2 a0_3 l0_4 l0_5 ((rd_T39 l0_5 x8_2).f0) ((rd_T39 l0_5 x8_2).f1) ((rd_T39 l0_5 x8_2).f2) ((rd_T39 l0_5 x8_2).f3) ((rd_T39 l0_5 x8_2).f4) t241 t242 t243 t244 = some r) ∧ Aside0 (kq ≤ k2) ∧ Aside0 (Kd.R (Kd.int .u8) 5 wc w.heap.size (fun _ => True) v4 x4_32) ∧ Aside0 (wc.heap[gb230]? = some (.cells #[.int .i64 a0_0, .int .i64 a0_1, .int .i64 a0_2, .int .i64 a0_3, (.slice A0_4 l0_4.length c0_4), (.slice (some ad239) l0_5.length c0_5)] 27 (0, 0))) ∧ Aside0 (wc.heap[gb231]? = some (.cells #[.int .i64 a0_0, .int .i64 a0_1, .int .i64 a0_2, .int .i64 a0_3] 23 (0, 0))) ∧ Aside0 (wc.heap[gb240]? = some (.cells #[.int .i64 ((rd_T39 l0_5 x8_2).f0), .int .i64 ((rd_T39 l0_5 x8_2).f1), .int .i64 ((rd_T39 l0_5 x8_2).f2), .int .u64 ((rd_T39 l0_5 x8_2).f3), (.slice A239_4 ((rd_T39 l0_5 x8_2).f4).length c239_4)] 39 (0, 0))) ∧ Aside0 (wc.heap[gb245]? = some (.cells #[.bool t241, .bool t242, .bool t243, .bool t244] 62 (0, 0))) ∧ Aside0 (Below w.heap.size w wc))
                  case first =>
                    have H := HC33.out
                    clear HC33
                    by_cases c49 : t241 = true
                    · subst c49
                      have H1 : (if y246.length < 140737488355328 then (gunnyref39_Put.j3 k2 (y246 ++ [((rd_T39 l0_5 x8_2).f1) % 256]) x8_2 a0_0 a0_1 a0_2 a0_3 l0_4 l0_5 ((rd_T39 l0_5 x8_2).f0) ((rd_T39 l0_5 x8_2).f1) ((rd_T39 l0_5 x8_2).f2) ((rd_T39 l0_5 x8_2).f3) ((rd_T39 l0_5 x8_2).f4) true t242 t243 t244) else (none)) = some r := by rw [if_pos rfl] at H; exact H
                      clear H
                      have H := H1
                      clear H1
                      by_cases c50 : y246.length < 140737488355328
                      · rw [if_pos c50] at H
                        have LMc50 := Aside0.mk c50
                        clear c50
                        obtain ⟨y249, hy249⟩ : ∃ y_ : List Int, y_ = (y246 ++ [((rd_T39 l0_5 x8_2).f1) % 256]) := ⟨_, rfl⟩
                        replace H : (gunnyref39_Put.j3 k2 y249 x8_2 a0_0 a0_1 a0_2 a0_3 l0_4 l0_5 ((rd_T39 l0_5 x8_2).f0) ((rd_T39 l0_5 x8_2).f1) ((rd_T39 l0_5 x8_2).f2) ((rd_T39 l0_5 x8_2).f3) ((rd_T39 l0_5 x8_2).f4) true t242 t243 t244) = some r := by first | (rw [hy249]; with_reducible exact H) | (have H2_ := (Option.bind_some _ _).symm.trans H; rw [hy249]; with_reducible exact H2_) | (have H2_ := (Option.bind_some _ _).symm.trans H; with_reducible exact H2_) | with_reducible exact H | (rw [hy249]; exact H) | exact H
                        have Ny249 := Aside0.mk hy249
                        clear hy249
                        have H' := Aside0.mk H
                        clear H
                        have hnb51 := NB240_230.out
                        have hnc51 := NB230_240.out
                        have hnb52 := NB240_231.out
                        have hnc52 := NB231_240.out
                        have hnb53 := NB240_245.out
                        have hnc53 := NB245_240.out
                        have hcz54_0 : w47.cell? ⟨gb240, 0, none⟩ = some (.int .i64 ((rd_T39 l0_5 x8_2).f0)) := (blk_cell BK240.out 0).trans rfl
                        have hcz54_1 : w47.cell? ⟨gb240, 1, none⟩ = some (.int .i64 ((rd_T39 l0_5 x8_2).f1)) := (blk_cell BK240.out 1).trans rfl
                        have hcz54_2 : w47.cell? ⟨gb240, 2, none⟩ = some (.int .i64 ((rd_T39 l0_5 x8_2).f2)) := (blk_cell BK240.out 2).trans rfl
                        have hcz54_3 : w47.cell? ⟨gb240, 3, none⟩ = some (.int .u64 ((rd_T39 l0_5 x8_2).f3)) := (blk_cell BK240.out 3).trans rfl
                        have hcz54_4 : w47.cell? ⟨gb240, 4, none⟩ = some (.slice A239_4 ((rd_T39 l0_5 x8_2).f4).length c239_4) := (blk_cell BK240.out 4).trans rfl
                        have hfz54_0 := blk_frozen BK240.out 0
                        have hfz54_1 := blk_frozen BK240.out 1
                        have hfz54_2 := blk_frozen BK240.out 2
                        have hfz54_3 := blk_frozen BK240.out 3
                        have hfz54_4 := blk_frozen BK240.out 4
                        go_wp2_with (first | ((with_reducible refine gate_builtin (b := .append) (xs := #[.tmp 95, .tmp 99]) rfl ?_); at_builtin; refine Kd.R_append (Kd.int .u8) (w0 := w) w.heap.size rfl (.tmp 95) (.tmp 99) 31 5 (.int .u8 0) 1 rfl Try.underlying31 info5 rfl (by decide) (by omega) v247 y246 (((rd_T39 l0_5 x8_2).f1) % 256) [.int .u8 (((rd_T39 l0_5 x8_2).f1) % 256)] (fun _ => True) (fun _ => False) rfl rfl ?aP (fun _ hk => hk.elim) ?aF ?aO ?aB ?aS ?aL ?_; (case aP => exact rfl); (case aB => exact (by repeat (first | (with_reducible first | exact HB.out | apply below_alloc | apply pw_below_drewN | apply below_drew1 | refine below_set ?_ GE230.out | refine below_set ?_ GE231.out | refine below_set ?_ GE240.out | refine below_set ?_ GE245.out) | exact HB.out))); (case aF => exact (fun _ _ => trivial)); (case aO => exact (by (with_reducible repeat (first | apply Kd.R_alloc | apply Kd.R_drewN | apply Kd.R_drew)); exact HO248.out)); (case aS => exact (below_size (by repeat (first | (with_reducible first | exact HB.out | apply below_alloc | apply pw_below_drewN | apply below_drew1 | refine below_set ?_ GE230.out | refine below_set ?_ GE231.out | refine below_set ?_ GE240.out | refine below_set ?_ GE245.out) | exact HB.out)))); (case aL => have := LMc50.out; omega); intro v250 w55 ho hb hg hat; rw [← Ny249.out] at ho; have n0_ := Aside0.mk (blk_grown (g := gb230) (o := .cells #[.int .i64 a0_0, .int .i64 a0_1, .int .i64 a0_2, .int .i64 a0_3, .slice A0_4 l0_4.length c0_4, .slice (some ad239) l0_5.length c0_5] 27 (0, 0)) (by (with_reducible repeat (first | refine blk_drewN ?_ _ | refine blk_drew ?_ | refine blk_alloc ?_ _)); exact BK230.out) hg (Kd.R_ne HO248.out BK230.out (by decide))); have n1_ := Aside0.mk (blk_grown (g := gb231) (o := .cells #[.int .i64 a0_0, .int .i64 a0_1, .int .i64 a0_2, .int .i64 a0_3] 23 (0, 0)) (by (with_reducible repeat (first | refine blk_drewN ?_ _ | refine blk_drew ?_ | refine blk_alloc ?_ _)); exact BK231.out) hg (Kd.R_ne HO248.out BK231.out (by decide))); have n2_ := Aside0.mk (blk_grown (g := gb240) (o := .cells #[.int .i64 ((rd_T39 l0_5 x8_2).f0), .int .i64 ((rd_T39 l0_5 x8_2).f1), .int .i64 ((rd_T39 l0_5 x8_2).f2), .int .u64 ((rd_T39 l0_5 x8_2).f3), .slice A239_4 ((rd_T39 l0_5 x8_2).f4).length c239_4] 39 (0, 0)) (by (with_reducible repeat (first | refine blk_drewN ?_ _ | refine blk_drew ?_ | refine blk_alloc ?_ _)); exact BK240.out) hg (Kd.R_ne HO248.out BK240.out (by decide))); have n3_ := Aside0.mk (blk_grown (g := gb245) (o := .cells #[.bool true, .bool t242, .bool t243, .bool t244] 62 (0, 0)) (by (with_reducible repeat (first | refine blk_drewN ?_ _ | refine blk_drew ?_ | refine blk_alloc ?_ _)); exact BK245.out) hg (Kd.R_ne HO248.out BK245.out (by decide))); have n4_ := Aside0.mk (hb); have n5_ := Aside0.mk (ho); clear BK230; clear BK231; clear BK240; clear BK245; clear HB; clear HO248; have BK230 := n0_; have BK231 := n1_; have BK240 := n2_; have BK245 := n3_; have HB := n4_; have HO251 := n5_; clear n0_ n1_ n2_ n3_ n4_ n5_; clear ho hb hg hat))
                        go_meet
                        case rel => exact ⟨_, (y249), H', ⟨by have := HK1.out; have := HK2.out; first | omega | exact Nat.le_refl _⟩, ⟨by (with_reducible repeat (first | apply Kd.R_alloc | apply Kd.R_drewN | apply Kd.R_drew)); exact HO251.out⟩, ⟨by (with_reducible repeat (first | refine blk_drewN ?_ _ | refine blk_drew ?_ | refine blk_alloc ?_ _)); exact BK230.out⟩, ⟨by (with_reducible repeat (first | refine blk_drewN ?_ _ | refine blk_drew ?_ | refine blk_alloc ?_ _)); exact BK231.out⟩, ⟨by (with_reducible repeat (first | refine blk_drewN ?_ _ | refine blk_drew ?_ | refine blk_alloc ?_ _)); exact BK240.out⟩, ⟨by (with_reducible repeat (first | refine blk_drewN ?_ _ | refine blk_drew ?_ | refine blk_alloc ?_ _)); exact BK245.out⟩, ⟨by repeat (first | (with_reducible first | exact HB.out | apply below_alloc | apply pw_below_drewN | apply below_drew1 | refine below_set ?_ GE230.out | refine below_set ?_ GE231.out | refine below_set ?_ GE240.out | refine below_set ?_ GE245.out) | exact HB.out)⟩⟩
                      · rw [if_neg c50] at H
                        exact absurd H (by simp)
                    · replace c49 := Bool.eq_false_iff.mpr c49
                      subst c49
                      have H1 : (gunnyref39_Put.j3 k2 y246 x8_2 a0_0 a0_1 a0_2 a0_3 l0_4 l0_5 ((rd_T39 l0_5 x8_2).f0) ((rd_T39 l0_5 x8_2).f1) ((rd_T39 l0_5 x8_2).f2) ((rd_T39 l0_5 x8_2).f3) ((rd_T39 l0_5 x8_2).f4) false t242 t243 t244) = some r := by rw [if_neg (show ¬ (false = true) by decide)] at H; exact H
                      clear H
                      have H := H1
                      clear H1
                      have H' := Aside0.mk H
                      clear H
                      go_wp2
                      go_meet
                      case rel => exact ⟨_, (y246), H', ⟨by have := HK1.out; have := HK2.out; first | omega | exact Nat.le_refl _⟩, ⟨by (with_reducible repeat (first | apply Kd.R_alloc | apply Kd.R_drewN | apply Kd.R_drew)); exact HO248.out⟩, ⟨by (with_reducible repeat (first | refine blk_drewN ?_ _ | refine blk_drew ?_ | refine blk_alloc ?_ _)); exact BK230.out⟩, ⟨by (with_reducible repeat (first | refine blk_drewN ?_ _ | refine blk_drew ?_ | refine blk_alloc ?_ _)); exact BK231.out⟩, ⟨by (with_reducible repeat (first | refine blk_drewN ?_ _ | refine blk_drew ?_ | refine blk_alloc ?_ _)); exact BK240.out⟩, ⟨by (with_reducible repeat (first | refine blk_drewN ?_ _ | refine blk_drew ?_ | refine blk_alloc ?_ _)); exact BK245.out⟩, ⟨by repeat (first | (with_reducible first | exact HB.out | apply below_alloc | apply pw_below_drewN | apply below_drew1 | refine below_set ?_ GE230.out | refine below_set ?_ GE231.out | refine below_set ?_ GE240.out | refine below_set ?_ GE245.out) | exact HB.out)⟩⟩
                  case rest =>
                    clear HC33
                    try clear c1
                    try clear q1
                    try clear c2
                    try clear p2
                    try clear q2
                    try clear hx2
                    try clear c3
                    try clear c4
                    try clear c5
                    try clear p6
                    try clear c10
                    try clear c10b0
                    try clear c11
                    try clear c13
                    try clear c13b0
                    try clear c14
                    try clear c14b0
                    try clear c15
                    try clear c16
                    try clear c16b0
                    try clear q17
                    try clear c18
                    try clear c19
                    try clear c21
                    try clear c23
                    try clear p23
                    try clear q23
                    try clear hx23
                    try clear c25
                    try clear c27
                    try clear c29
                    try clear c29b0
                    try clear c30
                    try clear c30b0
                    try clear c32
                    try clear c34
                    try clear c37
                    try clear c38
                    try clear c42
                    try clear c43
                    try clear c44
                    try clear c49
                    try clear c50
                    try clear c51
                    try clear c52
                    try clear c53
                    try clear hcz12_0
                    try clear hcz12_1
                    try clear hcz12_2
                    try clear hcz12_3
                    try clear hcz12_4
                    try clear hcz12_5
                    try clear hcz20_0
                    try clear hcz20_1
                    try clear hcz20_2
                    try clear hcz20_3
                    try clear hcz20_4
                    try clear hcz20_5
                    try clear hcz22_0
                    try clear hcz22_1
                    try clear hcz22_2
                    try clear hcz22_3
                    try clear hcz22_4
                    try clear hcz22_5
                    try clear hcz24_0
                    try clear hcz24_1
                    try clear hcz24_2
                    try clear hcz24_3
                    try clear hcz24_4
                    try clear hcz24_5
                    try clear hcz28_0
                    try clear hcz28_1
                    try clear hcz28_2
                    try clear hcz28_3
                    try clear hcz28_4
                    try clear hcz28_5
                    try clear hcz35_0
                    try clear hcz35_1
                    try clear hcz35_2
                    try clear hcz35_3
                    try clear hcz35_4
                    try clear hcz35_5
                    try clear hcz39_0
                    try clear hcz39_1
                    try clear hcz39_2
                    try clear hcz39_3
                    try clear hcz39_4
                    try clear hcz3_0
                    try clear hcz3_1
                    try clear hcz3_2
                    try clear hcz3_3
                    try clear hcz3_4
                    try clear hcz3_5
                    try clear hcz45_0
                    try clear hcz45_1
                    try clear hcz45_2
                    try clear hcz45_3
                    try clear hcz46_0
                    try clear hcz46_1
                    try clear hcz46_2
                    try clear hcz46_3
                    try clear hcz46_4
                    try clear hcz48_0
                    try clear hcz48_1
                    try clear hcz48_2
                    try clear hcz48_3
                    try clear hcz54_0
                    try clear hcz54_1
                    try clear hcz54_2
                    try clear hcz54_3
                    try clear hcz54_4
                    try clear hcz6_0
                    try clear hcz6_1
                    try clear hcz6_2
                    try clear hcz6_3
                    try clear hcz7_0
                    try clear hcz7_1
                    try clear hcz7_2
                    try clear hcz7_3
                    try clear hcz7_4
                    try clear hcz7_5
                    try clear hfz12_0
                    try clear hfz12_1
                    try clear hfz12_2
                    try clear hfz12_3
                    try clear hfz12_4
                    try clear hfz12_5
                    try clear hfz20_0
                    try clear hfz20_1
                    try clear hfz20_2
                    try clear hfz20_3
                    try clear hfz20_4
                    try clear hfz20_5
                    try clear hfz22_0
                    try clear hfz22_1
                    try clear hfz22_2
                    try clear hfz22_3
                    try clear hfz22_4
                    try clear hfz22_5
                    try clear hfz24_0
                    try clear hfz24_1
                    try clear hfz24_2
                    try clear hfz24_3
                    try clear hfz24_4
                    try clear hfz24_5
                    try clear hfz28_0
                    try clear hfz28_1
                    try clear hfz28_2
                    try clear hfz28_3
                    try clear hfz28_4
                    try clear hfz28_5
                    try clear hfz35_0
                    try clear hfz35_1
                    try clear hfz35_2
                    try clear hfz35_3
                    try clear hfz35_4
                    try clear hfz35_5
                    try clear hfz39_0
                    try clear hfz39_1
                    try clear hfz39_2
                    try clear hfz39_3
                    try clear hfz39_4
                    try clear hfz3_0
                    try clear hfz3_1
                    try clear hfz3_2
                    try clear hfz3_3
                    try clear hfz3_4
                    try clear hfz3_5
                    try clear hfz45_0
                    try clear hfz45_1
                    try clear hfz45_2
                    try clear hfz45_3
                    try clear hfz46_0
                    try clear hfz46_1
                    try clear hfz46_2
                    try clear hfz46_3
                    try clear hfz46_4
                    try clear hfz48_0
                    try clear hfz48_1
                    try clear hfz48_2
                    try clear hfz48_3
                    try clear hfz54_0
                    try clear hfz54_1
                    try clear hfz54_2
                    try clear hfz54_3
                    try clear hfz54_4
                    try clear hfz6_0
                    try clear hfz6_1
                    try clear hfz6_2
                    try clear hfz6_3
                    try clear hfz7_0
                    try clear hfz7_1
                    try clear hfz7_2
                    try clear hfz7_3
                    try clear hfz7_4
                    try clear hfz7_5
                    try clear hx235_0
                    try clear hx239_0
                    try clear hx239_1
                    try clear hx239_2
                    try clear hx239_3
                    try clear hx239_4
                    try clear p2
                    try clear p23
                    try clear p235
                    try clear p239
                    try clear p6
                    try clear q1
                    try clear q17
                    try clear q2
                    try clear q23
                    try clear q235
                    try clear q239
                    obtain ⟨kq, x4_32, HA, HJ32, HO_4, BK230, BK231, BK240, BK245, HB⟩ := hcut
                    cases kq with
                    | zero => exact absurd HA.out (by simp [gunnyref39_Put.j3])
                    | succ kj32 =>
                      have H := HA.out
                      clear HA
                      simp only [gunnyref39_Put.j3] at H
                      have HC56 := Aside0.mk H
                      clear H
                      have hnb57 := NB245_230.out
                      have hnc57 := NB230_245.out
                      have hnb58 := NB245_231.out
                      have hnc58 := NB231_245.out
                      have hnb59 := NB245_240.out
                      have hnc59 := NB240_245.out
                      have hcz60_0 : wc.cell? ⟨gb245, 0, none⟩ = some (.bool t241) := (blk_cell BK245.out 0).trans rfl
                      have hcz60_1 : wc.cell? ⟨gb245, 1, none⟩ = some (.bool t242) := (blk_cell BK245.out 1).trans rfl
                      have hcz60_2 : wc.cell? ⟨gb245, 2, none⟩ = some (.bool t243) := (blk_cell BK245.out 2).trans rfl
                      have hcz60_3 : wc.cell? ⟨gb245, 3, none⟩ = some (.bool t244) := (blk_cell BK245.out 3).trans rfl
                      have hfz60_0 := blk_frozen BK245.out 0
                      have hfz60_1 := blk_frozen BK245.out 1
                      have hfz60_2 := blk_frozen BK245.out 2
                      have hfz60_3 := blk_frozen BK245.out 3
                      go_upto_if 102 with (fail)
                      go_cut [4] (fun v4 wc => ∃ (kq : Nat) (x4_55 : List Int), Aside0 (gunnyref39_Put.j4 kq x4_55 x8_2 a0_0 a0_1 a0_2 a0_3 l0_4 l0_5 ((rd_T39 l0_5 x8_2).f0) ((rd_T39 l0_5 x8_2).f1) ((rd_T39 l0_5 x8_2).f2) ((rd_T39 l0_5 x8_2).f3) ((rd_T39 l0_5 x8_2).f4) t241 t242 t243 t244 = some r) ∧ Aside0 (kq ≤ kj32) ∧ Aside0 (Kd.R (Kd.int .u8) 5 wc w.heap.size (fun _ => True) v4 x4_55) ∧ Aside0 (wc.heap[gb230]? = some (.cells #[.int .i64 a0_0, .int .i64 a0_1, .int .i64 a0_2, .int .i64 a0_3, (.slice A0_4 l0_4.length c0_4), (.slice (some ad239) l0_5.length c0_5)] 27 (0, 0))) ∧ Aside0 (wc.heap[gb231]? = some (.cells #[.int .i64 a0_0, .int .i64 a0_1, .int .i64 a0_2, .int .i64 a0_3] 23 (0, 0))) ∧ Aside0 (wc.heap[gb240]? = some (.cells #[.int .i64 ((rd_T39 l0_5 x8_2).f0), .int .i64 ((rd_T39 l0_5 x8_2).f1), .int .i64 ((rd_T39 l0_5 x8_2).f2), .int .u64 ((rd_T39 l0_5 x8_2).f3), (.slice A239_4 ((rd_T39 l0_5 x8_2).f4).length c239_4)] 39 (0, 0))) ∧ Aside0 (wc.heap[gb245]? = some (.cells #[.bool t241, .bool t242, .bool t243, .bool t244] 62 (0, 0))) ∧ Aside0 (Below w.heap.size w wc))
                      case first =>
                        have H := HC56.out
                        clear HC56
                        by_cases c61 : t242 = true
                        · subst c61
                          have H1 : ((gunnyref01_Put.f kj32 8 ((rd_T39 l0_5 x8_2).f3)).bind fun t252 => (if x4_32.length + t252.length < 140737488355328 then (gunnyref39_Put.j4 kj32 (x4_32 ++ t252) x8_2 a0_0 a0_1 a0_2 a0_3 l0_4 l0_5 ((rd_T39 l0_5 x8_2).f0) ((rd_T39 l0_5 x8_2).f1) ((rd_T39 l0_5 x8_2).f2) ((rd_T39 l0_5 x8_2).f3) ((rd_T39 l0_5 x8_2).f4) t241 true t243 t244) else (none))) = some r := by rw [if_pos rfl] at H; exact H
                          clear H
                          have H := H1
                          clear H1
                          replace H := Option.bind_eq_some_iff.mp H
                          obtain ⟨t252, A620, H⟩ := H
                          replace H : (if x4_32.length + t252.length < 140737488355328 then (gunnyref39_Put.j4 kj32 (x4_32 ++ t252) x8_2 a0_0 a0_1 a0_2 a0_3 l0_4 l0_5 ((rd_T39 l0_5 x8_2).f0) ((rd_T39 l0_5 x8_2).f1) ((rd_T39 l0_5 x8_2).f2) ((rd_T39 l0_5 x8_2).f3) ((rd_T39 l0_5 x8_2).f4) t241 true t243 t244) else (none)) = some r := H
                          have A62 := Aside0.mk A620
                          clear A620
                          by_cases c63 : x4_32.length + t252.length < 140737488355328
                          · rw [if_pos c63] at H
                            have LMc63 := Aside0.mk c63
                            clear c63
                            obtain ⟨y255, hy255⟩ : ∃ y_ : List Int, y_ = (x4_32 ++ t252) := ⟨_, rfl⟩
                            replace H : (gunnyref39_Put.j4 kj32 y255 x8_2 a0_0 a0_1 a0_2 a0_3 l0_4 l0_5 ((rd_T39 l0_5 x8_2).f0) ((rd_T39 l0_5 x8_2).f1) ((rd_T39 l0_5 x8_2).f2) ((rd_T39 l0_5 x8_2).f3) ((rd_T39 l0_5 x8_2).f4) t241 true t243 t244) = some r := by first | (rw [hy255]; with_reducible exact H) | (have H2_ := (Option.bind_some _ _).symm.trans H; rw [hy255]; with_reducible exact H2_) | (have H2_ := (Option.bind_some _ _).symm.trans H; with_reducible exact H2_) | with_reducible exact H | (rw [hy255]; exact H) | exact H
                            have Ny255 := Aside0.mk hy255
                            clear hy255
                            have H' := Aside0.mk H
                            clear H
                            have hnb64 := NB240_230.out
                            have hnc64 := NB230_240.out
                            have hnb65 := NB240_231.out
                            have hnc65 := NB231_240.out
                            have hnb66 := NB240_245.out
                            have hnc66 := NB245_240.out
                            have hcz67_0 : wc.cell? ⟨gb240, 0, none⟩ = some (.int .i64 ((rd_T39 l0_5 x8_2).f0)) := (blk_cell BK240.out 0).trans rfl
                            have hcz67_1 : wc.cell? ⟨gb240, 1, none⟩ = some (.int .i64 ((rd_T39 l0_5 x8_2).f1)) := (blk_cell BK240.out 1).trans rfl
                            have hcz67_2 : wc.cell? ⟨gb240, 2, none⟩ = some (.int .i64 ((rd_T39 l0_5 x8_2).f2)) := (blk_cell BK240.out 2).trans rfl
                            have hcz67_3 : wc.cell? ⟨gb240, 3, none⟩ = some (.int .u64 ((rd_T39 l0_5 x8_2).f3)) := (blk_cell BK240.out 3).trans rfl
                            have hcz67_4 : wc.cell? ⟨gb240, 4, none⟩ = some (.slice A239_4 ((rd_T39 l0_5 x8_2).f4).length c239_4) := (blk_cell BK240.out 4).trans rfl
                            have hfz67_0 := blk_frozen BK240.out 0
                            have hfz67_1 := blk_frozen BK240.out 1
                            have hfz67_2 := blk_frozen BK240.out 2
                            have hfz67_3 := blk_frozen BK240.out 3
                            have hfz67_4 := blk_frozen BK240.out 4
                            go_wp2_with (first | ((with_reducible refine gate_callee (f := 31) rfl ?_); refine goesL_ (some 106) rfl rfl Try.func31 (by kernel_rfl) rfl #[.int .i64 8, .int .u64 ((rd_T39 l0_5 x8_2).f3)] rfl (by (try simp only [List.map_toArray, List.map_cons, List.map_nil]); first | done | rfl | (simp only [List.length_drop, List.length_take]; rfl)) ?_; (with_reducible refine (gunnyref01_Put.calls kj32 8 ((rd_T39 l0_5 x8_2).f3) t252 _ A62.out).mono ?_); rintro e w68 ⟨v253, rfl, ho0, hb⟩; refine ⟨_, rfl, ?_⟩; have n0_ := Aside0.mk (Kd.R_elder' (by (with_reducible repeat (first | apply Kd.R_alloc | apply Kd.R_drewN | apply Kd.R_drew)); exact HO_4.out) (Kd.R_base ho0) hb); have n1_ := Aside0.mk (Kd.R_lower (Kd.R_new' ho0 (Kd.R_lt (by (with_reducible repeat (first | apply Kd.R_alloc | apply Kd.R_drewN | apply Kd.R_drew)); exact HO_4.out))) (below_size (by repeat (first | (with_reducible first | exact HB.out | apply below_alloc | apply pw_below_drewN | apply below_drew1 | refine below_set ?_ GE230.out | refine below_set ?_ GE231.out | refine below_set ?_ GE240.out | refine below_set ?_ GE245.out) | exact HB.out)))); have n2_ := Aside0.mk (blk_below (g := gb230) (o := .cells #[.int .i64 a0_0, .int .i64 a0_1, .int .i64 a0_2, .int .i64 a0_3, .slice A0_4 l0_4.length c0_4, .slice (some ad239) l0_5.length c0_5] 27 (0, 0)) (by (with_reducible repeat (first | refine blk_drewN ?_ _ | refine blk_drew ?_ | refine blk_alloc ?_ _)); exact BK230.out) hb); have n3_ := Aside0.mk (blk_below (g := gb231) (o := .cells #[.int .i64 a0_0, .int .i64 a0_1, .int .i64 a0_2, .int .i64 a0_3] 23 (0, 0)) (by (with_reducible repeat (first | refine blk_drewN ?_ _ | refine blk_drew ?_ | refine blk_alloc ?_ _)); exact BK231.out) hb); have n4_ := Aside0.mk (blk_below (g := gb240) (o := .cells #[.int .i64 ((rd_T39 l0_5 x8_2).f0), .int .i64 ((rd_T39 l0_5 x8_2).f1), .int .i64 ((rd_T39 l0_5 x8_2).f2), .int .u64 ((rd_T39 l0_5 x8_2).f3), .slice A239_4 ((rd_T39 l0_5 x8_2).f4).length c239_4] 39 (0, 0)) (by (with_reducible repeat (first | refine blk_drewN ?_ _ | refine blk_drew ?_ | refine blk_alloc ?_ _)); exact BK240.out) hb); have n5_ := Aside0.mk (blk_below (g := gb245) (o := .cells #[.bool t241, .bool true, .bool t243, .bool t244] 62 (0, 0)) (by (with_reducible repeat (first | refine blk_drewN ?_ _ | refine blk_drew ?_ | refine blk_alloc ?_ _)); exact BK245.out) hb); have n6_ := Aside0.mk (below_step (by repeat (first | (with_reducible first | exact HB.out | apply below_alloc | apply pw_below_drewN | apply below_drew1 | refine below_set ?_ GE230.out | refine below_set ?_ GE231.out | refine below_set ?_ GE240.out | refine below_set ?_ GE245.out) | exact HB.out)) hb); clear HO_4; clear BK230; clear BK231; clear BK240; clear BK245; clear HB; have HO_4 := n0_; have HO254 := n1_; have BK230 := n2_; have BK231 := n3_; have BK240 := n4_; have BK245 := n5_; have HB := n6_; clear n0_ n1_ n2_ n3_ n4_ n5_ n6_; (try clear hb); (try clear hb2); (try clear hk); (try clear hi); (try clear ho0); obtain ⟨Ao70, co70, eo70⟩ := Kd.R_slice HO254.out; subst eo70) | ((with_reducible refine gate_builtin (b := .append) (xs := #[.tmp 103, .tmp 106]) rfl ?_); at_builtin; refine Kd.R_append_rows (Kd.int .u8) (w0 := w) w.heap.size rfl (.tmp 103) (.tmp 106) 31 5 (.int .u8 0) 1 rfl Try.underlying31 info5 rfl (by decide) (by omega) u4 x4_32 t252 _ _ _ (fun k_ => some k_ ≠ (.slice Ao70 t252.length co70 : Value).ownBlock) (fun _ => False) rfl rfl ?aO ?aR (fun _ _ h => h) (fun _ h => h.elim) ?aF ?aB ?aS ?aL ?_; (case aR => repeat (first | exact (Kd.R_reads' HO254.out).2.2 | (with_reducible refine Kd.C_alloc ?_ _) | (with_reducible refine Kd.C_drewN ?_ _) | (with_reducible refine Kd.C_drew ?_))); (case aB => exact (by repeat (first | (with_reducible first | exact HB.out | apply below_alloc | apply pw_below_drewN | apply below_drew1 | refine below_set ?_ GE230.out | refine below_set ?_ GE231.out | refine below_set ?_ GE240.out | refine below_set ?_ GE245.out) | exact HB.out))); (case aF => exact (fun k_ hk => Kd.fresh' (Kd.R_lt (by (with_reducible repeat (first | apply Kd.R_alloc | apply Kd.R_drewN | apply Kd.R_drew)); exact HO254.out)) k_ hk)); (case aO => exact (by (with_reducible repeat (first | apply Kd.R_alloc | apply Kd.R_drewN | apply Kd.R_drew)); exact Kd.R_mono HO_4.out (fun _ hk => hk.2))); (case aS => exact (below_size (by repeat (first | (with_reducible first | exact HB.out | apply below_alloc | apply pw_below_drewN | apply below_drew1 | refine below_set ?_ GE230.out | refine below_set ?_ GE231.out | refine below_set ?_ GE240.out | refine below_set ?_ GE245.out) | exact HB.out)))); (case aL => have := LMc63.out; omega); intro v256 w69 ho hb hg hat; rw [← Ny255.out] at ho; have n0_ := Aside0.mk (blk_grown (g := gb230) (o := .cells #[.int .i64 a0_0, .int .i64 a0_1, .int .i64 a0_2, .int .i64 a0_3, .slice A0_4 l0_4.length c0_4, .slice (some ad239) l0_5.length c0_5] 27 (0, 0)) (by (with_reducible repeat (first | refine blk_drewN ?_ _ | refine blk_drew ?_ | refine blk_alloc ?_ _)); exact BK230.out) hg (Kd.R_ne HO_4.out BK230.out (by decide))); have n1_ := Aside0.mk (blk_grown (g := gb231) (o := .cells #[.int .i64 a0_0, .int .i64 a0_1, .int .i64 a0_2, .int .i64 a0_3] 23 (0, 0)) (by (with_reducible repeat (first | refine blk_drewN ?_ _ | refine blk_drew ?_ | refine blk_alloc ?_ _)); exact BK231.out) hg (Kd.R_ne HO_4.out BK231.out (by decide))); have n2_ := Aside0.mk (blk_grown (g := gb240) (o := .cells #[.int .i64 ((rd_T39 l0_5 x8_2).f0), .int .i64 ((rd_T39 l0_5 x8_2).f1), .int .i64 ((rd_T39 l0_5 x8_2).f2), .int .u64 ((rd_T39 l0_5 x8_2).f3), .slice A239_4 ((rd_T39 l0_5 x8_2).f4).length c239_4] 39 (0, 0)) (by (with_reducible repeat (first | refine blk_drewN ?_ _ | refine blk_drew ?_ | refine blk_alloc ?_ _)); exact BK240.out) hg (Kd.R_ne HO_4.out BK240.out (by decide))); have n3_ := Aside0.mk (blk_grown (g := gb245) (o := .cells #[.bool t241, .bool true, .bool t243, .bool t244] 62 (0, 0)) (by (with_reducible repeat (first | refine blk_drewN ?_ _ | refine blk_drew ?_ | refine blk_alloc ?_ _)); exact BK245.out) hg (Kd.R_ne HO_4.out BK245.out (by decide))); have n4_ := Aside0.mk (Kd.R_after (ok := (fun _ => True)) (by (with_reducible repeat (first | apply Kd.R_alloc | apply Kd.R_drewN | apply Kd.R_drew)); exact HO254.out) hg hat); have n5_ := Aside0.mk (hb); have n6_ := Aside0.mk (ho); clear BK230; clear BK231; clear BK240; clear BK245; clear HO254; clear HB; clear HO_4; have BK230 := n0_; have BK231 := n1_; have BK240 := n2_; have BK245 := n3_; have HO254 := n4_; have HB := n5_; have HO257 := n6_; clear n0_ n1_ n2_ n3_ n4_ n5_ n6_; clear ho hb hg hat))
                            go_meet
                            case rel => exact ⟨_, (y255), H', ⟨by have := HK1.out; have := HK2.out; have := HJ32.out; first | omega | exact Nat.le_refl _⟩, ⟨by (with_reducible repeat (first | apply Kd.R_alloc | apply Kd.R_drewN | apply Kd.R_drew)); exact Kd.R_mono HO257.out (fun _ hk => trivial)⟩, ⟨by (with_reducible repeat (first | refine blk_drewN ?_ _ | refine blk_drew ?_ | refine blk_alloc ?_ _)); exact BK230.out⟩, ⟨by (with_reducible repeat (first | refine blk_drewN ?_ _ | refine blk_drew ?_ | refine blk_alloc ?_ _)); exact BK231.out⟩, ⟨by (with_reducible repeat (first | refine blk_drewN ?_ _ | refine blk_drew ?_ | refine blk_alloc ?_ _)); exact BK240.out⟩, ⟨by (with_reducible repeat (first | refine blk_drewN ?_ _ | refine blk_drew ?_ | refine blk_alloc ?_ _)); exact BK245.out⟩, ⟨by repeat (first | (with_reducible first | exact HB.out | apply below_alloc | apply pw_below_drewN | apply below_drew1 | refine below_set ?_ GE230.out | refine below_set ?_ GE231.out | refine below_set ?_ GE240.out | refine below_set ?_ GE245.out) | exact HB.out)⟩⟩
                          · rw [if_neg c63] at H
                            exact absurd H (by simp)
                        · replace c61 := Bool.eq_false_iff.mpr c61
                          subst c61
                          have H1 : (gunnyref39_Put.j4 kj32 x4_32 x8_2 a0_0 a0_1 a0_2 a0_3 l0_4 l0_5 ((rd_T39 l0_5 x8_2).f0) ((rd_T39 l0_5 x8_2).f1) ((rd_T39 l0_5 x8_2).f2) ((rd_T39 l0_5 x8_2).f3) ((rd_T39 l0_5 x8_2).f4) t241 false t243 t244) = some r := by rw [if_neg (show ¬ (false = true) by decide)] at H; exact H
                          clear H
                          have H := H1
                          clear H1
                          have H' := Aside0.mk H
                          clear H
                          go_wp2
                          go_meet
                          case rel => exact ⟨_, (x4_32), H', ⟨by have := HK1.out; have := HK2.out; have := HJ32.out; first | omega | exact Nat.le_refl _⟩, ⟨by (with_reducible repeat (first | apply Kd.R_alloc | apply Kd.R_drewN | apply Kd.R_drew)); exact HO_4.out⟩, ⟨by (with_reducible repeat (first | refine blk_drewN ?_ _ | refine blk_drew ?_ | refine blk_alloc ?_ _)); exact BK230.out⟩, ⟨by (with_reducible repeat (first | refine blk_drewN ?_ _ | refine blk_drew ?_ | refine blk_alloc ?_ _)); exact BK231.out⟩, ⟨by (with_reducible repeat (first | refine blk_drewN ?_ _ | refine blk_drew ?_ | refine blk_alloc ?_ _)); exact BK240.out⟩, ⟨by (with_reducible repeat (first | refine blk_drewN ?_ _ | refine blk_drew ?_ | refine blk_alloc ?_ _)); exact BK245.out⟩, ⟨by repeat (first | (with_reducible first | exact HB.out | apply below_alloc | apply pw_below_drewN | apply below_drew1 | refine below_set ?_ GE230.out | refine below_set ?_ GE231.out | refine below_set ?_ GE240.out | refine below_set ?_ GE245.out) | exact HB.out)⟩⟩
                      case rest =>
                        clear HC56
                        try clear c1
                        try clear q1
                        try clear c2
                        try clear p2
                        try clear q2
                        try clear hx2
                        try clear c3
                        try clear c4
                        try clear c5
                        try clear c6
                        try clear p6
                        try clear c10
                        try clear c10b0
                        try clear c11
                        try clear c13
                        try clear c13b0
                        try clear c14
                        try clear c14b0
                        try clear c15
                        try clear c16
                        try clear c16b0
                        try clear q17
                        try clear c18
                        try clear c19
                        try clear c21
                        try clear c23
                        try clear p23
                        try clear q23
                        try clear hx23
                        try clear c25
                        try clear c27
                        try clear c29
                        try clear c29b0
                        try clear c30
                        try clear c30b0
                        try clear c31
                        try clear c32
                        try clear c34
                        try clear c37
                        try clear c38
                        try clear c42
                        try clear c43
                        try clear c44
                        try clear c49
                        try clear c50
                        try clear c51
                        try clear c52
                        try clear c53
                        try clear c57
                        try clear c58
                        try clear c59
                        try clear c61
                        try clear c63
                        try clear c64
                        try clear p64
                        try clear c65
                        try clear c66
                        try clear hcz12_0
                        try clear hcz12_1
                        try clear hcz12_2
                        try clear hcz12_3
                        try clear hcz12_4
                        try clear hcz12_5
                        try clear hcz20_0
                        try clear hcz20_1
                        try clear hcz20_2
                        try clear hcz20_3
                        try clear hcz20_4
                        try clear hcz20_5
                        try clear hcz22_0
                        try clear hcz22_1
                        try clear hcz22_2
                        try clear hcz22_3
                        try clear hcz22_4
                        try clear hcz22_5
                        try clear hcz24_0
                        try clear hcz24_1
                        try clear hcz24_2
                        try clear hcz24_3
                        try clear hcz24_4
                        try clear hcz24_5
                        try clear hcz28_0
                        try clear hcz28_1
                        try clear hcz28_2
                        try clear hcz28_3
                        try clear hcz28_4
                        try clear hcz28_5
                        try clear hcz35_0
                        try clear hcz35_1
                        try clear hcz35_2
                        try clear hcz35_3
                        try clear hcz35_4
                        try clear hcz35_5
                        try clear hcz39_0
                        try clear hcz39_1
                        try clear hcz39_2
                        try clear hcz39_3
                        try clear hcz39_4
                        try clear hcz3_0
                        try clear hcz3_1
                        try clear hcz3_2
                        try clear hcz3_3
                        try clear hcz3_4
                        try clear hcz3_5
                        try clear hcz45_0
                        try clear hcz45_1
                        try clear hcz45_2
                        try clear hcz45_3
                        try clear hcz46_0
                        try clear hcz46_1
                        try clear hcz46_2
                        try clear hcz46_3
                        try clear hcz46_4
                        try clear hcz48_0
                        try clear hcz48_1
                        try clear hcz48_2
                        try clear hcz48_3
                        try clear hcz54_0
                        try clear hcz54_1
                        try clear hcz54_2
                        try clear hcz54_3
                        try clear hcz54_4
                        try clear hcz60_0
                        try clear hcz60_1
                        try clear hcz60_2
                        try clear hcz60_3
                        try clear hcz67_0
                        try clear hcz67_1
                        try clear hcz67_2
                        try clear hcz67_3
                        try clear hcz67_4
                        try clear hcz6_0
                        try clear hcz6_1
                        try clear hcz6_2
                        try clear hcz6_3
                        try clear hcz7_0
                        try clear hcz7_1
                        try clear hcz7_2
                        try clear hcz7_3
                        try clear hcz7_4
                        try clear hcz7_5
                        try clear hfz12_0
                        try clear hfz12_1
                        try clear hfz12_2
                        try clear hfz12_3
                        try clear hfz12_4
                        try clear hfz12_5
                        try clear hfz20_0
                        try clear hfz20_1
                        try clear hfz20_2
                        try clear hfz20_3
                        try clear hfz20_4
                        try clear hfz20_5
                        try clear hfz22_0
                        try clear hfz22_1
                        try clear hfz22_2
                        try clear hfz22_3
                        try clear hfz22_4
                        try clear hfz22_5
                        try clear hfz24_0
                        try clear hfz24_1
                        try clear hfz24_2
                        try clear hfz24_3
                        try clear hfz24_4
                        try clear hfz24_5
                        try clear hfz28_0
                        try clear hfz28_1
                        try clear hfz28_2
                        try clear hfz28_3
                        try clear hfz28_4
                        try clear hfz28_5
                        try clear hfz35_0
                        try clear hfz35_1
                        try clear hfz35_2
                        try clear hfz35_3
                        try clear hfz35_4
                        try clear hfz35_5
                        try clear hfz39_0
                        try clear hfz39_1
                        try clear hfz39_2
                        try clear hfz39_3
                        try clear hfz39_4
                        try clear hfz3_0
                        try clear hfz3_1
                        try clear hfz3_2
                        try clear hfz3_3
                        try clear hfz3_4
                        try clear hfz3_5
                        try clear hfz45_0
                        try clear hfz45_1
                        try clear hfz45_2
                        try clear hfz45_3
                        try clear hfz46_0
                        try clear hfz46_1
                        try clear hfz46_2
                        try clear hfz46_3
                        try clear hfz46_4
                        try clear hfz48_0
                        try clear hfz48_1
                        try clear hfz48_2
                        try clear hfz48_3
                        try clear hfz54_0
                        try clear hfz54_1
                        try clear hfz54_2
                        try clear hfz54_3
                        try clear hfz54_4
                        try clear hfz60_0
                        try clear hfz60_1
                        try clear hfz60_2
                        try clear hfz60_3
                        try clear hfz67_0
                        try clear hfz67_1
                        try clear hfz67_2
                        try clear hfz67_3
                        try clear hfz67_4
                        try clear hfz6_0
                        try clear hfz6_1
                        try clear hfz6_2
                        try clear hfz6_3
                        try clear hfz7_0
                        try clear hfz7_1
                        try clear hfz7_2
                        try clear hfz7_3
                        try clear hfz7_4
                        try clear hfz7_5
                        try clear hx235_0
                        try clear hx239_0
                        try clear hx239_1
                        try clear hx239_2
                        try clear hx239_3
                        try clear hx239_4
                        try clear p2
                        try clear p23
                        try clear p235
                        try clear p239
                        try clear p6
                        try clear q1
                        try clear q17
                        try clear q2
                        try clear q23
                        try clear q235
                        try clear q239
                        obtain ⟨kq, x4_55, HA, HJ55, HO_4, BK230, BK231, BK240, BK245, HB⟩ := hcut
                        cases kq with
                        | zero => exact absurd HA.out (by simp [gunnyref39_Put.j4])
                        | succ kj55 =>
                          have H := HA.out
                          clear HA
                          simp only [gunnyref39_Put.j4] at H
                          by_cases c71 : t243 = true
                          · subst c71
                            have H1 : (if x4_55.length < 140737488355328 then ((some (x4_55 ++ [(((rd_T39 l0_5 x8_2).f2)) % 256] : List Int)).bind fun y258 => (if t244 = true then (if y258.length < 140737488355328 then ((some (y258 ++ [((((rd_T39 l0_5 x8_2).f4).length : Int)) % 256] : List Int)).bind fun y261 => (if y261.length + ((rd_T39 l0_5 x8_2).f4).length < 140737488355328 then (gunnyref39_Put.l2 kj55 (y261 ++ ((rd_T39 l0_5 x8_2).f4)) (wrap64 (x8_2 + 1)) a0_0 a0_1 a0_2 a0_3 l0_4 l0_5) else (none))) else (none)) else (gunnyref39_Put.l2 kj55 y258 (wrap64 (x8_2 + 1)) a0_0 a0_1 a0_2 a0_3 l0_4 l0_5))) else (none)) = some r := by rw [if_pos rfl] at H; exact H
                            clear H
                            have H := H1
                            clear H1
                            by_cases c72 : x4_55.length < 140737488355328
                            · rw [if_pos c72] at H
                              have LMc72 := Aside0.mk c72
                              clear c72
                              obtain ⟨y258, hy258⟩ : ∃ y_ : List Int, y_ = (x4_55 ++ [(((rd_T39 l0_5 x8_2).f2)) % 256]) := ⟨_, rfl⟩
                              replace H : (if t244 = true then (if y258.length < 140737488355328 then ((some (y258 ++ [((((rd_T39 l0_5 x8_2).f4).length : Int)) % 256] : List Int)).bind fun y261 => (if y261.length + ((rd_T39 l0_5 x8_2).f4).length < 140737488355328 then (gunnyref39_Put.l2 kj55 (y261 ++ ((rd_T39 l0_5 x8_2).f4)) (wrap64 (x8_2 + 1)) a0_0 a0_1 a0_2 a0_3 l0_4 l0_5) else (none))) else (none)) else (gunnyref39_Put.l2 kj55 y258 (wrap64 (x8_2 + 1)) a0_0 a0_1 a0_2 a0_3 l0_4 l0_5)) = some r := by first | (rw [hy258]; with_reducible exact H) | (have H2_ := (Option.bind_some _ _).symm.trans H; rw [hy258]; with_reducible exact H2_) | (have H2_ := (Option.bind_some _ _).symm.trans H; with_reducible exact H2_) | with_reducible exact H | (rw [hy258]; exact H) | exact H
                              have Ny258 := Aside0.mk hy258
                              clear hy258
                              by_cases c73 : t244 = true
                              · subst c73
                                have H1 : (if y258.length < 140737488355328 then ((some (y258 ++ [((((rd_T39 l0_5 x8_2).f4).length : Int)) % 256] : List Int)).bind fun y261 => (if y261.length + ((rd_T39 l0_5 x8_2).f4).length < 140737488355328 then (gunnyref39_Put.l2 kj55 (y261 ++ ((rd_T39 l0_5 x8_2).f4)) (wrap64 (x8_2 + 1)) a0_0 a0_1 a0_2 a0_3 l0_4 l0_5) else (none))) else (none)) = some r := by rw [if_pos rfl] at H; exact H
                                clear H
                                have H := H1
                                clear H1
                                by_cases c74 : y258.length < 140737488355328
                                · rw [if_pos c74] at H
                                  have LMc74 := Aside0.mk c74
                                  clear c74
                                  obtain ⟨y261, hy261⟩ : ∃ y_ : List Int, y_ = (y258 ++ [((((rd_T39 l0_5 x8_2).f4).length : Int)) % 256]) := ⟨_, rfl⟩
                                  replace H : (if y261.length + ((rd_T39 l0_5 x8_2).f4).length < 140737488355328 then (gunnyref39_Put.l2 kj55 (y261 ++ ((rd_T39 l0_5 x8_2).f4)) (wrap64 (x8_2 + 1)) a0_0 a0_1 a0_2 a0_3 l0_4 l0_5) else (none)) = some r := by first | (rw [hy261]; with_reducible exact H) | (have H2_ := (Option.bind_some _ _).symm.trans H; rw [hy261]; with_reducible exact H2_) | (have H2_ := (Option.bind_some _ _).symm.trans H; with_reducible exact H2_) | with_reducible exact H | (rw [hy261]; exact H) | exact H
                                  have Ny261 := Aside0.mk hy261
                                  clear hy261
                                  by_cases c75 : y261.length + ((rd_T39 l0_5 x8_2).f4).length < 140737488355328
                                  · rw [if_pos c75] at H
                                    have LMc75 := Aside0.mk c75
                                    clear c75
                                    obtain ⟨y264, hy264⟩ : ∃ y_ : List Int, y_ = (y261 ++ ((rd_T39 l0_5 x8_2).f4)) := ⟨_, rfl⟩
                                    replace H : (gunnyref39_Put.l2 kj55 y264 (wrap64 (x8_2 + 1)) a0_0 a0_1 a0_2 a0_3 l0_4 l0_5) = some r := by first | (rw [hy264]; with_reducible exact H) | (have H2_ := (Option.bind_some _ _).symm.trans H; rw [hy264]; with_reducible exact H2_) | (have H2_ := (Option.bind_some _ _).symm.trans H; with_reducible exact H2_) | with_reducible exact H | (rw [hy264]; exact H) | exact H
                                    have Ny264 := Aside0.mk hy264
                                    clear hy264
                                    have H' := Aside0.mk H
                                    clear H
                                    have hnb76 := NB245_230.out
                                    have hnc76 := NB230_245.out
                                    have hnb77 := NB245_231.out
                                    have hnc77 := NB231_245.out
                                    have hnb78 := NB245_240.out
                                    have hnc78 := NB240_245.out
                                    have hcz79_0 : wc.cell? ⟨gb245, 0, none⟩ = some (.bool t241) := (blk_cell BK245.out 0).trans rfl
                                    have hcz79_1 : wc.cell? ⟨gb245, 1, none⟩ = some (.bool t242) := (blk_cell BK245.out 1).trans rfl
                                    have hcz79_2 : wc.cell? ⟨gb245, 2, none⟩ = some (.bool true) := (blk_cell BK245.out 2).trans rfl
                                    have hcz79_3 : wc.cell? ⟨gb245, 3, none⟩ = some (.bool true) := (blk_cell BK245.out 3).trans rfl
                                    have hfz79_0 := blk_frozen BK245.out 0
                                    have hfz79_1 := blk_frozen BK245.out 1
                                    have hfz79_2 := blk_frozen BK245.out 2
                                    have hfz79_3 := blk_frozen BK245.out 3
                                    have hnb80 := NB240_230.out
                                    have hnc80 := NB230_240.out
                                    have hnb81 := NB240_231.out
                                    have hnc81 := NB231_240.out
                                    have hcz82_0 : wc.cell? ⟨gb240, 0, none⟩ = some (.int .i64 ((rd_T39 l0_5 x8_2).f0)) := (blk_cell BK240.out 0).trans rfl
                                    have hcz82_1 : wc.cell? ⟨gb240, 1, none⟩ = some (.int .i64 ((rd_T39 l0_5 x8_2).f1)) := (blk_cell BK240.out 1).trans rfl
                                    have hcz82_2 : wc.cell? ⟨gb240, 2, none⟩ = some (.int .i64 ((rd_T39 l0_5 x8_2).f2)) := (blk_cell BK240.out 2).trans rfl
                                    have hcz82_3 : wc.cell? ⟨gb240, 3, none⟩ = some (.int .u64 ((rd_T39 l0_5 x8_2).f3)) := (blk_cell BK240.out 3).trans rfl
                                    have hcz82_4 : wc.cell? ⟨gb240, 4, none⟩ = some (.slice A239_4 ((rd_T39 l0_5 x8_2).f4).length c239_4) := (blk_cell BK240.out 4).trans rfl
                                    have hfz82_0 := blk_frozen BK240.out 0
                                    have hfz82_1 := blk_frozen BK240.out 1
                                    have hfz82_2 := blk_frozen BK240.out 2
                                    have hfz82_3 := blk_frozen BK240.out 3
                                    have hfz82_4 := blk_frozen BK240.out 4
                                    go_wp2_with (first | ((with_reducible refine gate_builtin (b := .append) (xs := #[.tmp 110, .tmp 114]) rfl ?_); at_builtin; refine Kd.R_append (Kd.int .u8) (w0 := w) w.heap.size rfl (.tmp 110) (.tmp 114) 31 5 (.int .u8 0) 1 rfl Try.underlying31 info5 rfl (by decide) (by omega) u4 x4_55 ((((rd_T39 l0_5 x8_2).f2)) % 256) [.int .u8 ((((rd_T39 l0_5 x8_2).f2)) % 256)] (fun _ => True) (fun _ => False) rfl rfl ?aP (fun _ hk => hk.elim) ?aF ?aO ?aB ?aS ?aL ?_; (case aP => exact rfl); (case aB => exact (by repeat (first | (with_reducible first | exact HB.out | apply below_alloc | apply pw_below_drewN | apply below_drew1 | refine below_set ?_ GE230.out | refine below_set ?_ GE231.out | refine below_set ?_ GE240.out | refine below_set ?_ GE245.out) | exact HB.out))); (case aF => exact (fun _ _ => trivial)); (case aO => exact (by (with_reducible repeat (first | apply Kd.R_alloc | apply Kd.R_drewN | apply Kd.R_drew)); exact HO_4.out)); (case aS => exact (below_size (by repeat (first | (with_reducible first | exact HB.out | apply below_alloc | apply pw_below_drewN | apply below_drew1 | refine below_set ?_ GE230.out | refine below_set ?_ GE231.out | refine below_set ?_ GE240.out | refine below_set ?_ GE245.out) | exact HB.out)))); (case aL => have := LMc72.out; omega); intro v259 w83 ho hb hg hat; rw [← Ny258.out] at ho; have n0_ := Aside0.mk (blk_grown (g := gb230) (o := .cells #[.int .i64 a0_0, .int .i64 a0_1, .int .i64 a0_2, .int .i64 a0_3, .slice A0_4 l0_4.length c0_4, .slice (some ad239) l0_5.length c0_5] 27 (0, 0)) (by (with_reducible repeat (first | refine blk_drewN ?_ _ | refine blk_drew ?_ | refine blk_alloc ?_ _)); exact BK230.out) hg (Kd.R_ne HO_4.out BK230.out (by decide))); have n1_ := Aside0.mk (blk_grown (g := gb231) (o := .cells #[.int .i64 a0_0, .int .i64 a0_1, .int .i64 a0_2, .int .i64 a0_3] 23 (0, 0)) (by (with_reducible repeat (first | refine blk_drewN ?_ _ | refine blk_drew ?_ | refine blk_alloc ?_ _)); exact BK231.out) hg (Kd.R_ne HO_4.out BK231.out (by decide))); have n2_ := Aside0.mk (blk_grown (g := gb240) (o := .cells #[.int .i64 ((rd_T39 l0_5 x8_2).f0), .int .i64 ((rd_T39 l0_5 x8_2).f1), .int .i64 ((rd_T39 l0_5 x8_2).f2), .int .u64 ((rd_T39 l0_5 x8_2).f3), .slice A239_4 ((rd_T39 l0_5 x8_2).f4).length c239_4] 39 (0, 0)) (by (with_reducible repeat (first | refine blk_drewN ?_ _ | refine blk_drew ?_ | refine blk_alloc ?_ _)); exact BK240.out) hg (Kd.R_ne HO_4.out BK240.out (by decide))); have n3_ := Aside0.mk (blk_grown (g := gb245) (o := .cells #[.bool t241, .bool t242, .bool true, .bool true] 62 (0, 0)) (by (with_reducible repeat (first | refine blk_drewN ?_ _ | refine blk_drew ?_ | refine blk_alloc ?_ _)); exact BK245.out) hg (Kd.R_ne HO_4.out BK245.out (by decide))); have n4_ := Aside0.mk (hb); have n5_ := Aside0.mk (ho); clear BK230; clear BK231; clear BK240; clear BK245; clear HB; clear HO_4; have BK230 := n0_; have BK231 := n1_; have BK240 := n2_; have BK245 := n3_; have HB := n4_; have HO260 := n5_; clear n0_ n1_ n2_ n3_ n4_ n5_; clear ho hb hg hat; have hcz84_0 : w83.cell? ⟨gb245, 0, none⟩ = some (.bool t241) := (blk_cell BK245.out 0).trans rfl; have hcz84_1 : w83.cell? ⟨gb245, 1, none⟩ = some (.bool t242) := (blk_cell BK245.out 1).trans rfl; have hcz84_2 : w83.cell? ⟨gb245, 2, none⟩ = some (.bool true) := (blk_cell BK245.out 2).trans rfl; have hcz84_3 : w83.cell? ⟨gb245, 3, none⟩ = some (.bool true) := (blk_cell BK245.out 3).trans rfl; have hfz84_0 := blk_frozen BK245.out 0; have hfz84_1 := blk_frozen BK245.out 1; have hfz84_2 := blk_frozen BK245.out 2; have hfz84_3 := blk_frozen BK245.out 3; have hcz85_0 : w83.cell? ⟨gb240, 0, none⟩ = some (.int .i64 ((rd_T39 l0_5 x8_2).f0)) := (blk_cell BK240.out 0).trans rfl; have hcz85_1 : w83.cell? ⟨gb240, 1, none⟩ = some (.int .i64 ((rd_T39 l0_5 x8_2).f1)) := (blk_cell BK240.out 1).trans rfl; have hcz85_2 : w83.cell? ⟨gb240, 2, none⟩ = some (.int .i64 ((rd_T39 l0_5 x8_2).f2)) := (blk_cell BK240.out 2).trans rfl; have hcz85_3 : w83.cell? ⟨gb240, 3, none⟩ = some (.int .u64 ((rd_T39 l0_5 x8_2).f3)) := (blk_cell BK240.out 3).trans rfl; have hcz85_4 : w83.cell? ⟨gb240, 4, none⟩ = some (.slice A239_4 ((rd_T39 l0_5 x8_2).f4).length c239_4) := (blk_cell BK240.out 4).trans rfl; have hfz85_0 := blk_frozen BK240.out 0; have hfz85_1 := blk_frozen BK240.out 1; have hfz85_2 := blk_frozen BK240.out 2; have hfz85_3 := blk_frozen BK240.out 3; have hfz85_4 := blk_frozen BK240.out 4) | ((with_reducible refine gate_builtin (b := .append) (xs := #[.tmp 118, .tmp 123]) rfl ?_); at_builtin; refine Kd.R_append (Kd.int .u8) (w0 := w) w.heap.size rfl (.tmp 118) (.tmp 123) 31 5 (.int .u8 0) 1 rfl Try.underlying31 info5 rfl (by decide) (by omega) v259 y258 (((((rd_T39 l0_5 x8_2).f4).length : Int)) % 256) [.int .u8 (((((rd_T39 l0_5 x8_2).f4).length : Int)) % 256)] (fun _ => True) (fun _ => False) rfl rfl ?aP (fun _ hk => hk.elim) ?aF ?aO ?aB ?aS ?aL ?_; (case aP => exact rfl); (case aB => exact (by repeat (first | (with_reducible first | exact HB.out | apply below_alloc | apply pw_below_drewN | apply below_drew1 | refine below_set ?_ GE230.out | refine below_set ?_ GE231.out | refine below_set ?_ GE240.out | refine below_set ?_ GE245.out) | exact HB.out))); (case aF => exact (fun _ _ => trivial)); (case aO => exact (by (with_reducible repeat (first | apply Kd.R_alloc | apply Kd.R_drewN | apply Kd.R_drew)); exact HO260.out)); (case aS => exact (below_size (by repeat (first | (with_reducible first | exact HB.out | apply below_alloc | apply pw_below_drewN | apply below_drew1 | refine below_set ?_ GE230.out | refine below_set ?_ GE231.out | refine below_set ?_ GE240.out | refine below_set ?_ GE245.out) | exact HB.out)))); (case aL => have := LMc74.out; omega); intro v262 w86 ho hb hg hat; rw [← Ny261.out] at ho; have n0_ := Aside0.mk (blk_grown (g := gb230) (o := .cells #[.int .i64 a0_0, .int .i64 a0_1, .int .i64 a0_2, .int .i64 a0_3, .slice A0_4 l0_4.length c0_4, .slice (some ad239) l0_5.length c0_5] 27 (0, 0)) (by (with_reducible repeat (first | refine blk_drewN ?_ _ | refine blk_drew ?_ | refine blk_alloc ?_ _)); exact BK230.out) hg (Kd.R_ne HO260.out BK230.out (by decide))); have n1_ := Aside0.mk (blk_grown (g := gb231) (o := .cells #[.int .i64 a0_0, .int .i64 a0_1, .int .i64 a0_2, .int .i64 a0_3] 23 (0, 0)) (by (with_reducible repeat (first | refine blk_drewN ?_ _ | refine blk_drew ?_ | refine blk_alloc ?_ _)); exact BK231.out) hg (Kd.R_ne HO260.out BK231.out (by decide))); have n2_ := Aside0.mk (blk_grown (g := gb240) (o := .cells #[.int .i64 ((rd_T39 l0_5 x8_2).f0), .int .i64 ((rd_T39 l0_5 x8_2).f1), .int .i64 ((rd_T39 l0_5 x8_2).f2), .int .u64 ((rd_T39 l0_5 x8_2).f3), .slice A239_4 ((rd_T39 l0_5 x8_2).f4).length c239_4] 39 (0, 0)) (by (with_reducible repeat (first | refine blk_drewN ?_ _ | refine blk_drew ?_ | refine blk_alloc ?_ _)); exact BK240.out) hg (Kd.R_ne HO260.out BK240.out (by decide))); have n3_ := Aside0.mk (blk_grown (g := gb245) (o := .cells #[.bool t241, .bool t242, .bool true, .bool true] 62 (0, 0)) (by (with_reducible repeat (first | refine blk_drewN ?_ _ | refine blk_drew ?_ | refine blk_alloc ?_ _)); exact BK245.out) hg (Kd.R_ne HO260.out BK245.out (by decide))); have n4_ := Aside0.mk (hb); have n5_ := Aside0.mk (ho); clear BK230; clear BK231; clear BK240; clear BK245; clear HB; clear HO260; have BK230 := n0_; have BK231 := n1_; have BK240 := n2_; have BK245 := n3_; have HB := n4_; have HO263 := n5_; clear n0_ n1_ n2_ n3_ n4_ n5_; clear ho hb hg hat; have hcz87_0 : w86.cell? ⟨gb240, 0, none⟩ = some (.int .i64 ((rd_T39 l0_5 x8_2).f0)) := (blk_cell BK240.out 0).trans rfl; have hcz87_1 : w86.cell? ⟨gb240, 1, none⟩ = some (.int .i64 ((rd_T39 l0_5 x8_2).f1)) := (blk_cell BK240.out 1).trans rfl; have hcz87_2 : w86.cell? ⟨gb240, 2, none⟩ = some (.int .i64 ((rd_T39 l0_5 x8_2).f2)) := (blk_cell BK240.out 2).trans rfl; have hcz87_3 : w86.cell? ⟨gb240, 3, none⟩ = some (.int .u64 ((rd_T39 l0_5 x8_2).f3)) := (blk_cell BK240.out 3).trans rfl; have hcz87_4 : w86.cell? ⟨gb240, 4, none⟩ = some (.slice A239_4 ((rd_T39 l0_5 x8_2).f4).length c239_4) := (blk_cell BK240.out 4).trans rfl; have hfz87_0 := blk_frozen BK240.out 0; have hfz87_1 := blk_frozen BK240.out 1; have hfz87_2 := blk_frozen BK240.out 2; have hfz87_3 := blk_frozen BK240.out 3; have hfz87_4 := blk_frozen BK240.out 4) | ((with_reducible refine gate_builtin (b := .append) (xs := #[.tmp 125, .tmp 127]) rfl ?_); at_builtin; refine Kd.R_append_rows (Kd.int .u8) (w0 := w) w.heap.size rfl (.tmp 125) (.tmp 127) 31 5 (.int .u8 0) 1 rfl Try.underlying31 info5 rfl (by decide) (by omega) v262 y261 ((rd_T39 l0_5 x8_2).f4) _ _ _ (fun _ => True) (fun _ => False) rfl rfl ?aO ?aR (fun _ _ h => h) (fun _ h => h.elim) ?aF ?aB ?aS ?aL ?_; (case aR => repeat (first | exact (Kd.C_below HR239_4.out HB.out) | (with_reducible refine Kd.C_alloc ?_ _) | (with_reducible refine Kd.C_drewN ?_ _) | (with_reducible refine Kd.C_drew ?_))); (case aB => exact (by repeat (first | (with_reducible first | exact HB.out | apply below_alloc | apply pw_below_drewN | apply below_drew1 | refine below_set ?_ GE230.out | refine below_set ?_ GE231.out | refine below_set ?_ GE240.out | refine below_set ?_ GE245.out) | exact HB.out))); (case aF => exact (fun _ _ => trivial)); (case aO => exact (by (with_reducible repeat (first | apply Kd.R_alloc | apply Kd.R_drewN | apply Kd.R_drew)); exact HO263.out)); (case aS => exact (below_size (by repeat (first | (with_reducible first | exact HB.out | apply below_alloc | apply pw_below_drewN | apply below_drew1 | refine below_set ?_ GE230.out | refine below_set ?_ GE231.out | refine below_set ?_ GE240.out | refine below_set ?_ GE245.out) | exact HB.out)))); (case aL => have := LMc75.out; omega); intro v265 w88 ho hb hg hat; rw [← Ny264.out] at ho; have n0_ := Aside0.mk (blk_grown (g := gb230) (o := .cells #[.int .i64 a0_0, .int .i64 a0_1, .int .i64 a0_2, .int .i64 a0_3, .slice A0_4 l0_4.length c0_4, .slice (some ad239) l0_5.length c0_5] 27 (0, 0)) (by (with_reducible repeat (first | refine blk_drewN ?_ _ | refine blk_drew ?_ | refine blk_alloc ?_ _)); exact BK230.out) hg (Kd.R_ne HO263.out BK230.out (by decide))); have n1_ := Aside0.mk (blk_grown (g := gb231) (o := .cells #[.int .i64 a0_0, .int .i64 a0_1, .int .i64 a0_2, .int .i64 a0_3] 23 (0, 0)) (by (with_reducible repeat (first | refine blk_drewN ?_ _ | refine blk_drew ?_ | refine blk_alloc ?_ _)); exact BK231.out) hg (Kd.R_ne HO263.out BK231.out (by decide))); have n2_ := Aside0.mk (blk_grown (g := gb240) (o := .cells #[.int .i64 ((rd_T39 l0_5 x8_2).f0), .int .i64 ((rd_T39 l0_5 x8_2).f1), .int .i64 ((rd_T39 l0_5 x8_2).f2), .int .u64 ((rd_T39 l0_5 x8_2).f3), .slice A239_4 ((rd_T39 l0_5 x8_2).f4).length c239_4] 39 (0, 0)) (by (with_reducible repeat (first | refine blk_drewN ?_ _ | refine blk_drew ?_ | refine blk_alloc ?_ _)); exact BK240.out) hg (Kd.R_ne HO263.out BK240.out (by decide))); have n3_ := Aside0.mk (blk_grown (g := gb245) (o := .cells #[.bool t241, .bool t242, .bool true, .bool true] 62 (0, 0)) (by (with_reducible repeat (first | refine blk_drewN ?_ _ | refine blk_drew ?_ | refine blk_alloc ?_ _)); exact BK245.out) hg (Kd.R_ne HO263.out BK245.out (by decide))); have n4_ := Aside0.mk (hb); have n5_ := Aside0.mk (ho); clear BK230; clear BK231; clear BK240; clear BK245; clear HB; clear HO263; have BK230 := n0_; have BK231 := n1_; have BK240 := n2_; have BK245 := n3_; have HB := n4_; have HO266 := n5_; clear n0_ n1_ n2_ n3_ n4_ n5_; clear ho hb hg hat))
                                    go_roundg kj55
                                    case measure => have := HK1.out; have := HK2.out; have := HJ32.out; have := HJ55.out; omega
                                    case rel => exact ⟨(y264), (wrap64 (x8_2 + 1)), (by first | rfl | (simp; done) | (simp [*]; done)), H', ⟨by have := HK1.out; have := HK2.out; have := HJ32.out; have := HJ55.out; omega⟩, ⟨by (with_reducible repeat (first | apply Kd.R_alloc | apply Kd.R_drewN | apply Kd.R_drew)); exact HO266.out⟩, ⟨by (with_reducible repeat (first | refine blk_drewN ?_ _ | refine blk_drew ?_ | refine blk_alloc ?_ _)); exact BK230.out⟩, ⟨by (with_reducible repeat (first | refine blk_drewN ?_ _ | refine blk_drew ?_ | refine blk_alloc ?_ _)); exact BK231.out⟩, ⟨by repeat (first | (with_reducible first | exact HB.out | apply below_alloc | apply pw_below_drewN | apply below_drew1 | refine below_set ?_ GE230.out | refine below_set ?_ GE231.out | refine below_set ?_ GE240.out | refine below_set ?_ GE245.out) | exact HB.out)⟩⟩
                                  · rw [if_neg c75] at H
                                    exact absurd H (by simp)
                                · rw [if_neg c74] at H
                                  exact absurd H (by simp)
                              · replace c73 := Bool.eq_false_iff.mpr c73
                                subst c73
                                have H1 : (gunnyref39_Put.l2 kj55 y258 (wrap64 (x8_2 + 1)) a0_0 a0_1 a0_2 a0_3 l0_4 l0_5) = some r := by rw [if_neg (show ¬ (false = true) by decide)] at H; exact H
                                clear H
                                have H := H1
                                clear H1
                                have H' := Aside0.mk H
                                clear H
                                have hnb89 := NB245_230.out
                                have hnc89 := NB230_245.out
                                have hnb90 := NB245_231.out
                                have hnc90 := NB231_245.out
                                have hnb91 := NB245_240.out
                                have hnc91 := NB240_245.out
                                have hcz92_0 : wc.cell? ⟨gb245, 0, none⟩ = some (.bool t241) := (blk_cell BK245.out 0).trans rfl
                                have hcz92_1 : wc.cell? ⟨gb245, 1, none⟩ = some (.bool t242) := (blk_cell BK245.out 1).trans rfl
                                have hcz92_2 : wc.cell? ⟨gb245, 2, none⟩ = some (.bool true) := (blk_cell BK245.out 2).trans rfl
                                have hcz92_3 : wc.cell? ⟨gb245, 3, none⟩ = some (.bool false) := (blk_cell BK245.out 3).trans rfl
                                have hfz92_0 := blk_frozen BK245.out 0
                                have hfz92_1 := blk_frozen BK245.out 1
                                have hfz92_2 := blk_frozen BK245.out 2
                                have hfz92_3 := blk_frozen BK245.out 3
                                have hnb93 := NB240_230.out
                                have hnc93 := NB230_240.out
                                have hnb94 := NB240_231.out
                                have hnc94 := NB231_240.out
                                have hcz95_0 : wc.cell? ⟨gb240, 0, none⟩ = some (.int .i64 ((rd_T39 l0_5 x8_2).f0)) := (blk_cell BK240.out 0).trans rfl
                                have hcz95_1 : wc.cell? ⟨gb240, 1, none⟩ = some (.int .i64 ((rd_T39 l0_5 x8_2).f1)) := (blk_cell BK240.out 1).trans rfl
                                have hcz95_2 : wc.cell? ⟨gb240, 2, none⟩ = some (.int .i64 ((rd_T39 l0_5 x8_2).f2)) := (blk_cell BK240.out 2).trans rfl
                                have hcz95_3 : wc.cell? ⟨gb240, 3, none⟩ = some (.int .u64 ((rd_T39 l0_5 x8_2).f3)) := (blk_cell BK240.out 3).trans rfl
                                have hcz95_4 : wc.cell? ⟨gb240, 4, none⟩ = some (.slice A239_4 ((rd_T39 l0_5 x8_2).f4).length c239_4) := (blk_cell BK240.out 4).trans rfl
                                have hfz95_0 := blk_frozen BK240.out 0
                                have hfz95_1 := blk_frozen BK240.out 1
                                have hfz95_2 := blk_frozen BK240.out 2
                                have hfz95_3 := blk_frozen BK240.out 3
                                have hfz95_4 := blk_frozen BK240.out 4
                                go_wp2_with (first | ((with_reducible refine gate_builtin (b := .append) (xs := #[.tmp 110, .tmp 114]) rfl ?_); at_builtin; refine Kd.R_append (Kd.int .u8) (w0 := w) w.heap.size rfl (.tmp 110) (.tmp 114) 31 5 (.int .u8 0) 1 rfl Try.underlying31 info5 rfl (by decide) (by omega) u4 x4_55 ((((rd_T39 l0_5 x8_2).f2)) % 256) [.int .u8 ((((rd_T39 l0_5 x8_2).f2)) % 256)] (fun _ => True) (fun _ => False) rfl rfl ?aP (fun _ hk => hk.elim) ?aF ?aO ?aB ?aS ?aL ?_; (case aP => exact rfl); (case aB => exact (by repeat (first | (with_reducible first | exact HB.out | apply below_alloc | apply pw_below_drewN | apply below_drew1 | refine below_set ?_ GE230.out | refine below_set ?_ GE231.out | refine below_set ?_ GE240.out | refine below_set ?_ GE245.out) | exact HB.out))); (case aF => exact (fun _ _ => trivial)); (case aO => exact (by (with_reducible repeat (first | apply Kd.R_alloc | apply Kd.R_drewN | apply Kd.R_drew)); exact HO_4.out)); (case aS => exact (below_size (by repeat (first | (with_reducible first | exact HB.out | apply below_alloc | apply pw_below_drewN | apply below_drew1 | refine below_set ?_ GE230.out | refine below_set ?_ GE231.out | refine below_set ?_ GE240.out | refine below_set ?_ GE245.out) | exact HB.out)))); (case aL => have := LMc72.out; omega); intro v259 w96 ho hb hg hat; rw [← Ny258.out] at ho; have n0_ := Aside0.mk (blk_grown (g := gb230) (o := .cells #[.int .i64 a0_0, .int .i64 a0_1, .int .i64 a0_2, .int .i64 a0_3, .slice A0_4 l0_4.length c0_4, .slice (some ad239) l0_5.length c0_5] 27 (0, 0)) (by (with_reducible repeat (first | refine blk_drewN ?_ _ | refine blk_drew ?_ | refine blk_alloc ?_ _)); exact BK230.out) hg (Kd.R_ne HO_4.out BK230.out (by decide))); have n1_ := Aside0.mk (blk_grown (g := gb231) (o := .cells #[.int .i64 a0_0, .int .i64 a0_1, .int .i64 a0_2, .int .i64 a0_3] 23 (0, 0)) (by (with_reducible repeat (first | refine blk_drewN ?_ _ | refine blk_drew ?_ | refine blk_alloc ?_ _)); exact BK231.out) hg (Kd.R_ne HO_4.out BK231.out (by decide))); have n2_ := Aside0.mk (blk_grown (g := gb240) (o := .cells #[.int .i64 ((rd_T39 l0_5 x8_2).f0), .int .i64 ((rd_T39 l0_5 x8_2).f1), .int .i64 ((rd_T39 l0_5 x8_2).f2), .int .u64 ((rd_T39 l0_5 x8_2).f3), .slice A239_4 ((rd_T39 l0_5 x8_2).f4).length c239_4] 39 (0, 0)) (by (with_reducible repeat (first | refine blk_drewN ?_ _ | refine blk_drew ?_ | refine blk_alloc ?_ _)); exact BK240.out) hg (Kd.R_ne HO_4.out BK240.out (by decide))); have n3_ := Aside0.mk (blk_grown (g := gb245) (o := .cells #[.bool t241, .bool t242, .bool true, .bool false] 62 (0, 0)) (by (with_reducible repeat (first | refine blk_drewN ?_ _ | refine blk_drew ?_ | refine blk_alloc ?_ _)); exact BK245.out) hg (Kd.R_ne HO_4.out BK245.out (by decide))); have n4_ := Aside0.mk (hb); have n5_ := Aside0.mk (ho); clear BK230; clear BK231; clear BK240; clear BK245; clear HB; clear HO_4; have BK230 := n0_; have BK231 := n1_; have BK240 := n2_; have BK245 := n3_; have HB := n4_; have HO260 := n5_; clear n0_ n1_ n2_ n3_ n4_ n5_; clear ho hb hg hat; have hcz97_0 : w96.cell? ⟨gb245, 0, none⟩ = some (.bool t241) := (blk_cell BK245.out 0).trans rfl; have hcz97_1 : w96.cell? ⟨gb245, 1, none⟩ = some (.bool t242) := (blk_cell BK245.out 1).trans rfl; have hcz97_2 : w96.cell? ⟨gb245, 2, none⟩ = some (.bool true) := (blk_cell BK245.out 2).trans rfl; have hcz97_3 : w96.cell? ⟨gb245, 3, none⟩ = some (.bool false) := (blk_cell BK245.out 3).trans rfl; have hfz97_0 := blk_frozen BK245.out 0; have hfz97_1 := blk_frozen BK245.out 1; have hfz97_2 := blk_frozen BK245.out 2; have hfz97_3 := blk_frozen BK245.out 3))
                                go_roundg kj55
                                case measure => have := HK1.out; have := HK2.out; have := HJ32.out; have := HJ55.out; omega
                                case rel => exact ⟨(y258), (wrap64 (x8_2 + 1)), (by first | rfl | (simp; done) | (simp [*]; done)), H', ⟨by have := HK1.out; have := HK2.out; have := HJ32.out; have := HJ55.out; omega⟩, ⟨by (with_reducible repeat (first | apply Kd.R_alloc | apply Kd.R_drewN | apply Kd.R_drew)); exact HO260.out⟩, ⟨by (with_reducible repeat (first | refine blk_drewN ?_ _ | refine blk_drew ?_ | refine blk_alloc ?_ _)); exact BK230.out⟩, ⟨by (with_reducible repeat (first | refine blk_drewN ?_ _ | refine blk_drew ?_ | refine blk_alloc ?_ _)); exact BK231.out⟩, ⟨by repeat (first | (with_reducible first | exact HB.out | apply below_alloc | apply pw_below_drewN | apply below_drew1 | refine below_set ?_ GE230.out | refine below_set ?_ GE231.out | refine below_set ?_ GE240.out | refine below_set ?_ GE245.out) | exact HB.out)⟩⟩
                            · rw [if_neg c72] at H
                              exact absurd H (by simp)
                          · replace c71 := Bool.eq_false_iff.mpr c71
                            subst c71
                            have H1 : (if t244 = true then (if x4_55.length < 140737488355328 then ((some (x4_55 ++ [((((rd_T39 l0_5 x8_2).f4).length : Int)) % 256] : List Int)).bind fun y267 => (if y267.length + ((rd_T39 l0_5 x8_2).f4).length < 140737488355328 then (gunnyref39_Put.l2 kj55 (y267 ++ ((rd_T39 l0_5 x8_2).f4)) (wrap64 (x8_2 + 1)) a0_0 a0_1 a0_2 a0_3 l0_4 l0_5) else (none))) else (none)) else (gunnyref39_Put.l2 kj55 x4_55 (wrap64 (x8_2 + 1)) a0_0 a0_1 a0_2 a0_3 l0_4 l0_5)) = some r := by rw [if_neg (show ¬ (false = true) by decide)] at H; exact H
                            clear H
                            have H := H1
                            clear H1
                            by_cases c98 : t244 = true
                            · subst c98
                              have H1 : (if x4_55.length < 140737488355328 then ((some (x4_55 ++ [((((rd_T39 l0_5 x8_2).f4).length : Int)) % 256] : List Int)).bind fun y267 => (if y267.length + ((rd_T39 l0_5 x8_2).f4).length < 140737488355328 then (gunnyref39_Put.l2 kj55 (y267 ++ ((rd_T39 l0_5 x8_2).f4)) (wrap64 (x8_2 + 1)) a0_0 a0_1 a0_2 a0_3 l0_4 l0_5) else (none))) else (none)) = some r := by rw [if_pos rfl] at H; exact H
                              clear H
                              have H := H1
                              clear H1
                              by_cases c99 : x4_55.length < 140737488355328
                              · rw [if_pos c99] at H
                                have LMc99 := Aside0.mk c99
                                clear c99
                                obtain ⟨y267, hy267⟩ : ∃ y_ : List Int, y_ = (x4_55 ++ [((((rd_T39 l0_5 x8_2).f4).length : Int)) % 256]) := ⟨_, rfl⟩
                                replace H : (if y267.length + ((rd_T39 l0_5 x8_2).f4).length < 140737488355328 then (gunnyref39_Put.l2 kj55 (y267 ++ ((rd_T39 l0_5 x8_2).f4)) (wrap64 (x8_2 + 1)) a0_0 a0_1 a0_2 a0_3 l0_4 l0_5) else (none)) = some r := by first | (rw [hy267]; with_reducible exact H) | (have H2_ := (Option.bind_some _ _).symm.trans H; rw [hy267]; with_reducible exact H2_) | (have H2_ := (Option.bind_some _ _).symm.trans H; with_reducible exact H2_) | with_reducible exact H | (rw [hy267]; exact H) | exact H
                                have Ny267 := Aside0.mk hy267
                                clear hy267
                                by_cases c100 : y267.length + ((rd_T39 l0_5 x8_2).f4).length < 140737488355328
                                · rw [if_pos c100] at H
                                  have LMc100 := Aside0.mk c100
                                  clear c100
                                  obtain ⟨y270, hy270⟩ : ∃ y_ : List Int, y_ = (y267 ++ ((rd_T39 l0_5 x8_2).f4)) := ⟨_, rfl⟩
                                  replace H : (gunnyref39_Put.l2 kj55 y270 (wrap64 (x8_2 + 1)) a0_0 a0_1 a0_2 a0_3 l0_4 l0_5) = some r := by first | (rw [hy270]; with_reducible exact H) | (have H2_ := (Option.bind_some _ _).symm.trans H; rw [hy270]; with_reducible exact H2_) | (have H2_ := (Option.bind_some _ _).symm.trans H; with_reducible exact H2_) | with_reducible exact H | (rw [hy270]; exact H) | exact H
                                  have Ny270 := Aside0.mk hy270
                                  clear hy270
                                  have H' := Aside0.mk H
                                  clear H
                                  have hnb101 := NB245_230.out
                                  have hnc101 := NB230_245.out
                                  have hnb102 := NB245_231.out
                                  have hnc102 := NB231_245.out
                                  have hnb103 := NB245_240.out
                                  have hnc103 := NB240_245.out
                                  have hcz104_0 : wc.cell? ⟨gb245, 0, none⟩ = some (.bool t241) := (blk_cell BK245.out 0).trans rfl
                                  have hcz104_1 : wc.cell? ⟨gb245, 1, none⟩ = some (.bool t242) := (blk_cell BK245.out 1).trans rfl
                                  have hcz104_2 : wc.cell? ⟨gb245, 2, none⟩ = some (.bool false) := (blk_cell BK245.out 2).trans rfl
                                  have hcz104_3 : wc.cell? ⟨gb245, 3, none⟩ = some (.bool true) := (blk_cell BK245.out 3).trans rfl
                                  have hfz104_0 := blk_frozen BK245.out 0
                                  have hfz104_1 := blk_frozen BK245.out 1
                                  have hfz104_2 := blk_frozen BK245.out 2
                                  have hfz104_3 := blk_frozen BK245.out 3
                                  have hnb105 := NB240_230.out
                                  have hnc105 := NB230_240.out
                                  have hnb106 := NB240_231.out
                                  have hnc106 := NB231_240.out
                                  have hcz107_0 : wc.cell? ⟨gb240, 0, none⟩ = some (.int .i64 ((rd_T39 l0_5 x8_2).f0)) := (blk_cell BK240.out 0).trans rfl
                                  have hcz107_1 : wc.cell? ⟨gb240, 1, none⟩ = some (.int .i64 ((rd_T39 l0_5 x8_2).f1)) := (blk_cell BK240.out 1).trans rfl
                                  have hcz107_2 : wc.cell? ⟨gb240, 2, none⟩ = some (.int .i64 ((rd_T39 l0_5 x8_2).f2)) := (blk_cell BK240.out 2).trans rfl
                                  have hcz107_3 : wc.cell? ⟨gb240, 3, none⟩ = some (.int .u64 ((rd_T39 l0_5 x8_2).f3)) := (blk_cell BK240.out 3).trans rfl
                                  have hcz107_4 : wc.cell? ⟨gb240, 4, none⟩ = some (.slice A239_4 ((rd_T39 l0_5 x8_2).f4).length c239_4) := (blk_cell BK240.out 4).trans rfl
                                  have hfz107_0 := blk_frozen BK240.out 0
                                  have hfz107_1 := blk_frozen BK240.out 1
                                  have hfz107_2 := blk_frozen BK240.out 2
                                  have hfz107_3 := blk_frozen BK240.out 3
                                  have hfz107_4 := blk_frozen BK240.out 4
                                  go_wp2_with (first | ((with_reducible refine gate_builtin (b := .append) (xs := #[.tmp 118, .tmp 123]) rfl ?_); at_builtin; refine Kd.R_append (Kd.int .u8) (w0 := w) w.heap.size rfl (.tmp 118) (.tmp 123) 31 5 (.int .u8 0) 1 rfl Try.underlying31 info5 rfl (by decide) (by omega) u4 x4_55 (((((rd_T39 l0_5 x8_2).f4).length : Int)) % 256) [.int .u8 (((((rd_T39 l0_5 x8_2).f4).length : Int)) % 256)] (fun _ => True) (fun _ => False) rfl rfl ?aP (fun _ hk => hk.elim) ?aF ?aO ?aB ?aS ?aL ?_; (case aP => exact rfl); (case aB => exact (by repeat (first | (with_reducible first | exact HB.out | apply below_alloc | apply pw_below_drewN | apply below_drew1 | refine below_set ?_ GE230.out | refine below_set ?_ GE231.out | refine below_set ?_ GE240.out | refine below_set ?_ GE245.out) | exact HB.out))); (case aF => exact (fun _ _ => trivial)); (case aO => exact (by (with_reducible repeat (first | apply Kd.R_alloc | apply Kd.R_drewN | apply Kd.R_drew)); exact HO_4.out)); (case aS => exact (below_size (by repeat (first | (with_reducible first | exact HB.out | apply below_alloc | apply pw_below_drewN | apply below_drew1 | refine below_set ?_ GE230.out | refine below_set ?_ GE231.out | refine below_set ?_ GE240.out | refine below_set ?_ GE245.out) | exact HB.out)))); (case aL => have := LMc99.out; omega); intro v268 w108 ho hb hg hat; rw [← Ny267.out] at ho; have n0_ := Aside0.mk (blk_grown (g := gb230) (o := .cells #[.int .i64 a0_0, .int .i64 a0_1, .int .i64 a0_2, .int .i64 a0_3, .slice A0_4 l0_4.length c0_4, .slice (some ad239) l0_5.length c0_5] 27 (0, 0)) (by (with_reducible repeat (first | refine blk_drewN ?_ _ | refine blk_drew ?_ | refine blk_alloc ?_ _)); exact BK230.out) hg (Kd.R_ne HO_4.out BK230.out (by decide))); have n1_ := Aside0.mk (blk_grown (g := gb231) (o := .cells #[.int .i64 a0_0, .int .i64 a0_1, .int .i64 a0_2, .int .i64 a0_3] 23 (0, 0)) (by (with_reducible repeat (first | refine blk_drewN ?_ _ | refine blk_drew ?_ | refine blk_alloc ?_ _)); exact BK231.out) hg (Kd.R_ne HO_4.out BK231.out (by decide))); have n2_ := Aside0.mk (blk_grown (g := gb240) (o := .cells #[.int .i64 ((rd_T39 l0_5 x8_2).f0), .int .i64 ((rd_T39 l0_5 x8_2).f1), .int .i64 ((rd_T39 l0_5 x8_2).f2), .int .u64 ((rd_T39 l0_5 x8_2).f3), .slice A239_4 ((rd_T39 l0_5 x8_2).f4).length c239_4] 39 (0, 0)) (by (with_reducible repeat (first | refine blk_drewN ?_ _ | refine blk_drew ?_ | refine blk_alloc ?_ _)); exact BK240.out) hg (Kd.R_ne HO_4.out BK240.out (by decide))); have n3_ := Aside0.mk (blk_grown (g := gb245) (o := .cells #[.bool t241, .bool t242, .bool false, .bool true] 62 (0, 0)) (by (with_reducible repeat (first | refine blk_drewN ?_ _ | refine blk_drew ?_ | refine blk_alloc ?_ _)); exact BK245.out) hg (Kd.R_ne HO_4.out BK245.out (by decide))); have n4_ := Aside0.mk (hb); have n5_ := Aside0.mk (ho); clear BK230; clear BK231; clear BK240; clear BK245; clear HB; clear HO_4; have BK230 := n0_; have BK231 := n1_; have BK240 := n2_; have BK245 := n3_; have HB := n4_; have HO269 := n5_; clear n0_ n1_ n2_ n3_ n4_ n5_; clear ho hb hg hat; have hcz109_0 : w108.cell? ⟨gb240, 0, none⟩ = some (.int .i64 ((rd_T39 l0_5 x8_2).f0)) := (blk_cell BK240.out 0).trans rfl; have hcz109_1 : w108.cell? ⟨gb240, 1, none⟩ = some (.int .i64 ((rd_T39 l0_5 x8_2).f1)) := (blk_cell BK240.out 1).trans rfl; have hcz109_2 : w108.cell? ⟨gb240, 2, none⟩ = some (.int .i64 ((rd_T39 l0_5 x8_2).f2)) := (blk_cell BK240.out 2).trans rfl; have hcz109_3 : w108.cell? ⟨gb240, 3, none⟩ = some (.int .u64 ((rd_T39 l0_5 x8_2).f3)) := (blk_cell BK240.out 3).trans rfl; have hcz109_4 : w108.cell? ⟨gb240, 4, none⟩ = some (.slice A239_4 ((rd_T39 l0_5 x8_2).f4).length c239_4) := (blk_cell BK240.out 4).trans rfl; have hfz109_0 := blk_frozen BK240.out 0; have hfz109_1 := blk_frozen BK240.out 1; have hfz109_2 := blk_frozen BK240.out 2; have hfz109_3 := blk_frozen BK240.out 3; have hfz109_4 := blk_frozen BK240.out 4) | ((with_reducible refine gate_builtin (b := .append) (xs := #[.tmp 125, .tmp 127]) rfl ?_); at_builtin; refine Kd.R_append_rows (Kd.int .u8) (w0 := w) w.heap.size rfl (.tmp 125) (.tmp 127) 31 5 (.int .u8 0) 1 rfl Try.underlying31 info5 rfl (by decide) (by omega) v268 y267 ((rd_T39 l0_5 x8_2).f4) _ _ _ (fun _ => True) (fun _ => False) rfl rfl ?aO ?aR (fun _ _ h => h) (fun _ h => h.elim) ?aF ?aB ?aS ?aL ?_; (case aR => repeat (first | exact (Kd.C_below HR239_4.out HB.out) | (with_reducible refine Kd.C_alloc ?_ _) | (with_reducible refine Kd.C_drewN ?_ _) | (with_reducible refine Kd.C_drew ?_))); (case aB => exact (by repeat (first | (with_reducible first | exact HB.out | apply below_alloc | apply pw_below_drewN | apply below_drew1 | refine below_set ?_ GE230.out | refine below_set ?_ GE231.out | refine below_set ?_ GE240.out | refine below_set ?_ GE245.out) | exact HB.out))); (case aF => exact (fun _ _ => trivial)); (case aO => exact (by (with_reducible repeat (first | apply Kd.R_alloc | apply Kd.R_drewN | apply Kd.R_drew)); exact HO269.out)); (case aS => exact (below_size (by repeat (first | (with_reducible first | exact HB.out | apply below_alloc | apply pw_below_drewN | apply below_drew1 | refine below_set ?_ GE230.out | refine below_set ?_ GE231.out | refine below_set ?_ GE240.out | refine below_set ?_ GE245.out) | exact HB.out)))); (case aL => have := LMc100.out; omega); intro v271 w110 ho hb hg hat; rw [← Ny270.out] at ho; have n0_ := Aside0.mk (blk_grown (g := gb230) (o := .cells #[.int .i64 a0_0, .int .i64 a0_1, .int .i64 a0_2, .int .i64 a0_3, .slice A0_4 l0_4.length c0_4, .slice (some ad239) l0_5.length c0_5] 27 (0, 0)) (by (with_reducible repeat (first | refine blk_drewN ?_ _ | refine blk_drew ?_ | refine blk_alloc ?_ _)); exact BK230.out) hg (Kd.R_ne HO269.out BK230.out (by decide))); have n1_ := Aside0.mk (blk_grown (g := gb231) (o := .cells #[.int .i64 a0_0, .int .i64 a0_1, .int .i64 a0_2, .int .i64 a0_3] 23 (0, 0)) (by (with_reducible repeat (first | refine blk_drewN ?_ _ | refine blk_drew ?_ | refine blk_alloc ?_ _)); exact BK231.out) hg (Kd.R_ne HO269.out BK231.out (by decide))); have n2_ := Aside0.mk (blk_grown (g := gb240) (o := .cells #[.int .i64 ((rd_T39 l0_5 x8_2).f0), .int .i64 ((rd_T39 l0_5 x8_2).f1), .int .i64 ((rd_T39 l0_5 x8_2).f2), .int .u64 ((rd_T39 l0_5 x8_2).f3), .slice A239_4 ((rd_T39 l0_5 x8_2).f4).length c239_4] 39 (0, 0)) (by (with_reducible repeat (first | refine blk_drewN ?_ _ | refine blk_drew ?_ | refine blk_alloc ?_ _)); exact BK240.out) hg (Kd.R_ne HO269.out BK240.out (by decide))); have n3_ := Aside0.mk (blk_grown (g := gb245) (o := .cells #[.bool t241, .bool t242, .bool false, .bool true] 62 (0, 0)) (by (with_reducible repeat (first | refine blk_drewN ?_ _ | refine blk_drew ?_ | refine blk_alloc ?_ _)); exact BK245.out) hg (Kd.R_ne HO269.out BK245.out (by decide))); have n4_ := Aside0.mk (hb); have n5_ := Aside0.mk (ho); clear BK230; clear BK231; clear BK240; clear BK245; clear HB; clear HO269; have BK230 := n0_; have BK231 := n1_; have BK240 := n2_; have BK245 := n3_; have HB := n4_; have HO272 := n5_; clear n0_ n1_ n2_ n3_ n4_ n5_; clear ho hb hg hat))
                                  go_roundg kj55
                                  case measure => have := HK1.out; have := HK2.out; have := HJ32.out; have := HJ55.out; omega
                                  case rel => exact ⟨(y270), (wrap64 (x8_2 + 1)), (by first | rfl | (simp; done) | (simp [*]; done)), H', ⟨by have := HK1.out; have := HK2.out; have := HJ32.out; have := HJ55.out; omega⟩, ⟨by (with_reducible repeat (first | apply Kd.R_alloc | apply Kd.R_drewN | apply Kd.R_drew)); exact HO272.out⟩, ⟨by (with_reducible repeat (first | refine blk_drewN ?_ _ | refine blk_drew ?_ | refine blk_alloc ?_ _)); exact BK230.out⟩, ⟨by (with_reducible repeat (first | refine blk_drewN ?_ _ | refine blk_drew ?_ | refine blk_alloc ?_ _)); exact BK231.out⟩, ⟨by repeat (first | (with_reducible first | exact HB.out | apply below_alloc | apply pw_below_drewN | apply below_drew1 | refine below_set ?_ GE230.out | refine below_set ?_ GE231.out | refine below_set ?_ GE240.out | refine below_set ?_ GE245.out) | exact HB.out)⟩⟩
                                · rw [if_neg c100] at H
                                  exact absurd H (by simp)
                              · rw [if_neg c99] at H
                                exact absurd H (by simp)
                            · replace c98 := Bool.eq_false_iff.mpr c98
                              subst c98
                              have H1 : (gunnyref39_Put.l2 kj55 x4_55 (wrap64 (x8_2 + 1)) a0_0 a0_1 a0_2 a0_3 l0_4 l0_5) = some r := by rw [if_neg (show ¬ (false = true) by decide)] at H; exact H
                              clear H
                              have H := H1
                              clear H1
                              have H' := Aside0.mk H
                              clear H
                              have hnb111 := NB245_230.out
                              have hnc111 := NB230_245.out
                              have hnb112 := NB245_231.out
                              have hnc112 := NB231_245.out
                              have hnb113 := NB245_240.out
                              have hnc113 := NB240_245.out
                              have hcz114_0 : wc.cell? ⟨gb245, 0, none⟩ = some (.bool t241) := (blk_cell BK245.out 0).trans rfl
                              have hcz114_1 : wc.cell? ⟨gb245, 1, none⟩ = some (.bool t242) := (blk_cell BK245.out 1).trans rfl
                              have hcz114_2 : wc.cell? ⟨gb245, 2, none⟩ = some (.bool false) := (blk_cell BK245.out 2).trans rfl
                              have hcz114_3 : wc.cell? ⟨gb245, 3, none⟩ = some (.bool false) := (blk_cell BK245.out 3).trans rfl
                              have hfz114_0 := blk_frozen BK245.out 0
                              have hfz114_1 := blk_frozen BK245.out 1
                              have hfz114_2 := blk_frozen BK245.out 2
                              have hfz114_3 := blk_frozen BK245.out 3
                              go_wp2
                              go_roundg kj55
                              case measure => have := HK1.out; have := HK2.out; have := HJ32.out; have := HJ55.out; omega
                              case rel => exact ⟨(x4_55), (wrap64 (x8_2 + 1)), (by first | rfl | (simp; done) | (simp [*]; done)), H', ⟨by have := HK1.out; have := HK2.out; have := HJ32.out; have := HJ55.out; omega⟩, ⟨by (with_reducible repeat (first | apply Kd.R_alloc | apply Kd.R_drewN | apply Kd.R_drew)); exact HO_4.out⟩, ⟨by (with_reducible repeat (first | refine blk_drewN ?_ _ | refine blk_drew ?_ | refine blk_alloc ?_ _)); exact BK230.out⟩, ⟨by (with_reducible repeat (first | refine blk_drewN ?_ _ | refine blk_drew ?_ | refine blk_alloc ?_ _)); exact BK231.out⟩, ⟨by repeat (first | (with_reducible first | exact HB.out | apply below_alloc | apply pw_below_drewN | apply below_drew1 | refine below_set ?_ GE230.out | refine below_set ?_ GE231.out | refine below_set ?_ GE240.out | refine below_set ?_ GE245.out) | exact HB.out)⟩⟩
                · rw [if_neg c32] at H
                  exact absurd H (by simp)
              · rw [if_neg c30] at H
                exact absurd H (by simp)
            · rw [if_neg c29] at H
              have c29b0 : decide (x8_2 < (l0_5.length : Int)) = false := decide_eq_false c29
              clear c29
              obtain rfl := Option.some.inj H
              have hnb115 := NB230_231.out
              have hnc115 := NB231_230.out
              have hcz116_0 : wr.cell? ⟨gb230, 0, none⟩ = some (.int .i64 a0_0) := (blk_cell BK230.out 0).trans rfl
              have hcz116_1 : wr.cell? ⟨gb230, 1, none⟩ = some (.int .i64 a0_1) := (blk_cell BK230.out 1).trans rfl
              have hcz116_2 : wr.cell? ⟨gb230, 2, none⟩ = some (.int .i64 a0_2) := (blk_cell BK230.out 2).trans rfl
              have hcz116_3 : wr.cell? ⟨gb230, 3, none⟩ = some (.int .i64 a0_3) := (blk_cell BK230.out 3).trans rfl
              have hcz116_4 : wr.cell? ⟨gb230, 4, none⟩ = some (.slice A0_4 l0_4.length c0_4) := (blk_cell BK230.out 4).trans rfl
              have hcz116_5 : wr.cell? ⟨gb230, 5, none⟩ = some (.slice A0_5 l0_5.length c0_5) := (blk_cell BK230.out 5).trans rfl
              have hfz116_0 := blk_frozen BK230.out 0
              have hfz116_1 := blk_frozen BK230.out 1
              have hfz116_2 := blk_frozen BK230.out 2
              have hfz116_3 := blk_frozen BK230.out 3
              have hfz116_4 := blk_frozen BK230.out 4
              have hfz116_5 := blk_frozen BK230.out 5
              go_wp2
              go_ret
              exact ⟨_, by first | rfl | (simp [errW_none, errW_some] <;> rfl) | (simp [*, errW_none, errW_some] <;> rfl), by (with_reducible repeat (first | apply Kd.R_alloc | apply Kd.R_drewN | apply Kd.R_drew)); exact HO_4.out, by repeat (first | (with_reducible first | exact HB.out | apply below_alloc | apply pw_below_drewN | apply below_drew1 | refine below_set ?_ GE230.out | refine below_set ?_ GE231.out) | exact HB.out)⟩

end Go.Proofs.Ytldoaddeaiappaa.R
