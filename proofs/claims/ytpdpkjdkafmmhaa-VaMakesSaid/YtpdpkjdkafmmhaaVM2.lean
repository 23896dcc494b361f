/- gunnyref30.Make, walked. -/
import Derived.Test.YtpdpkjdkafmmhaaVM
namespace Go.Proofs.Ytpdpkjdkafmmhaa.VM
set_option linter.unusedVariables false
set_option linter.unusedSimpArgs false
open Go.RowKit Go.Proofs.Ytpdpkjdkafmmhaa.R Go.Proofs.Ytpdpkjdkafmmhaa.Bits Go.Proofs.Ytpdpkjdkafmmhaa.Num Go.Proofs.Ytpdpkjdkafmmhaa.Va Go.Proofs.Ytpdpkjdkafmmhaa.Hand Go.Proofs.YtpdpkjdkafmmhaaW.PrintWords Go.Proofs.YtpdpkjdkafmmhaaW.PrintLast Go.Proofs.YtpdpkjdkafmmhaaW.PrintMore

set_option maxRecDepth 10000 in
theorem st (acc x : Nat) (h : 512 * acc + x < 18446744073709551616) : IntKind.u64.wrap ((IntKind.u64.wrap (512 * (acc : Int))) + (IntKind.u64.wrap (x : Int))) = ((512 * acc + x : Nat) : Int) := by
  rw [u64w, u64w, u64w]
  omega

set_option maxHeartbeats 8000000 in
set_option maxRecDepth 100000 in
theorem refmake_calls (off a b c d : Nat) (ho : off < 4096) (ha : a < 512) (hb : b < 512) (hc : c < 512) (hd : d < 512) (w : World) :
    Calls Try.prog 9 #[.int .i64 (off : Int), .agg #[.int .i64 (a : Int), .int .i64 (b : Int), .int .i64 (c : Int), .int .i64 (d : Int)]] w fun e w' => e = .returned (.int .u64 ((sp (4096 * pa a b c d 4 + off) : Nat) : Int)) ∧ Below w.heap.size w w' := by
  obtain ⟨A, hA⟩ : ∃ A : Array Value, A = #[.int .i64 (a : Int), .int .i64 (b : Int), .int .i64 (c : Int), .int .i64 (d : Int)] := ⟨_, rfl⟩
  rw [← hA]
  have hn : (w.alloc (.cells A 24 (0, 0))).heap[w.heap.size]? = some (.cells A 24 (0, 0)) := blk_new w _
  have c0 : ∀ n, ((w.alloc (.cells A 24 (0, 0))).drewN n).cell? ⟨w.heap.size, 0, none⟩ = some (.int .i64 (a : Int)) := fun n => (blk_cell hn 0).trans (by rw [hA]; rfl)
  have c1 : ∀ n, ((w.alloc (.cells A 24 (0, 0))).drewN n).cell? ⟨w.heap.size, 1, none⟩ = some (.int .i64 (b : Int)) := fun n => (blk_cell hn 1).trans (by rw [hA]; rfl)
  have c2 : ∀ n, ((w.alloc (.cells A 24 (0, 0))).drewN n).cell? ⟨w.heap.size, 2, none⟩ = some (.int .i64 (c : Int)) := fun n => (blk_cell hn 2).trans (by rw [hA]; rfl)
  have c3 : ∀ n, ((w.alloc (.cells A 24 (0, 0))).drewN n).cell? ⟨w.heap.size, 3, none⟩ = some (.int .i64 (d : Int)) := fun n => (blk_cell hn 3).trans (by rw [hA]; rfl)
  have g0 := c0 0
  have g1 := c1 0
  have g2 := c2 0
  have g3 := c3 0
  replace hA := Aside0.mk hA
  replace hn := Aside0.mk hn
  replace ho := Aside0.mk ho
  replace ha := Aside0.mk ha
  replace hb := Aside0.mk hb
  replace hc := Aside0.mk hc
  replace hd := Aside0.mk hd
  go_enter Try.func9, Try.ntmps9
  go_wp2
  go_loopg [5, 6] 4 (fun kq v5 v6 w' => ∃ (j : Nat), v5 = .int .u64 ((pa a b c d j : Nat) : Int) ∧ v6 = .int .i64 (3 - (j : Int)) ∧ Aside0 (j + kq = 4) ∧ Drawn0 (w.alloc (.cells A 24 (0, 0))) w')
  case atStart => exact ⟨0, rfl, rfl, ⟨rfl⟩, Drawn0.refl _⟩
  case round =>
    obtain ⟨j, rfl, rfl, HK, ⟨⟨nq, rfl⟩⟩⟩ := hrel
    cases gk with
    | zero =>
      obtain rfl : j = 4 := by have := HK.out; omega
      have e3 : (3 : Int) - ((4 : Nat) : Int) = -1 := by decide
      rw [e3]
      have hp : pa a b c d 4 < 68719476736 := by
        have := ha.out; have := hb.out; have := hc.out; have := hd.out
        show 512 * (512 * (512 * d + c) + b) + a < _
        omega
      have hU : gunnyref30_Up.f (IntKind.u64.wrap ((IntKind.u64.wrap (4096 * ((pa a b c d 4 : Nat) : Int))) + (IntKind.u64.wrap (off : Int)))) = some ((sp (4096 * pa a b c d 4 + off) : Nat) : Int) := by
        have e : IntKind.u64.wrap ((IntKind.u64.wrap (4096 * ((pa a b c d 4 : Nat) : Int))) + (IntKind.u64.wrap (off : Int))) = ((4096 * pa a b c d 4 + off : Nat) : Int) := by
          have := ho.out
          rw [u64w, u64w, u64w]
          omega
        rw [e]
        have := ho.out
        exact up_some _ (by clear e; omega)
      obtain ⟨P, hP⟩ : ∃ P : Nat, P = pa a b c d 4 := ⟨_, rfl⟩
      rw [← hP] at hU ⊢
      replace hU := Aside0.mk hU
      replace hP := Aside0.mk hP
      replace hp := Aside0.mk hp
      go_wp2_with (go_at_call 10; refine (gunnyref30_Up.calls _ _ _ hU.out).mono ?_; rintro e w' ⟨rfl, ⟨n2, rfl⟩⟩)
      go_returns
      rw [← hP.out]
      exact ⟨rfl, by repeat (with_reducible first | exact Below.refl _ _ | refine pw_below_drewN ?_ _ | refine below_alloc ?_ _)⟩
    | succ k1 =>
      match j with
      | 0 =>
        go_wp2
        go_roundg k1
        case measure => have := HK.out; omega
        case rel => exact ⟨1, by first | rfl | exact congrArg (Value.int .u64) ((st 0 d (by have := hd.out; omega)).trans (congrArg Nat.cast (show 512 * 0 + d = pa a b c d 1 by show _ = d; omega))), by first | rfl | decide +kernel, ⟨by have := HK.out; omega⟩, ⟨⟨_, rfl⟩⟩⟩
      | 1 =>
        go_wp2
        go_roundg k1
        case measure => have := HK.out; omega
        case rel => exact ⟨2, by first | rfl | exact congrArg (Value.int .u64) (st (d) c (by have := ha.out; have := hb.out; have := hc.out; have := hd.out; omega)), by first | rfl | decide +kernel, ⟨by have := HK.out; omega⟩, ⟨⟨_, rfl⟩⟩⟩
      | 2 =>
        go_wp2
        go_roundg k1
        case measure => have := HK.out; omega
        case rel => exact ⟨3, by first | rfl | exact congrArg (Value.int .u64) (st (512 * d + c) b (by have := ha.out; have := hb.out; have := hc.out; have := hd.out; omega)), by first | rfl | decide +kernel, ⟨by have := HK.out; omega⟩, ⟨⟨_, rfl⟩⟩⟩
      | 3 =>
        go_wp2
        go_roundg k1
        case measure => have := HK.out; omega
        case rel => exact ⟨4, by first | rfl | exact congrArg (Value.int .u64) (st (512 * (512 * d + c) + b) a (by have := ha.out; have := hb.out; have := hc.out; have := hd.out; omega)), by first | rfl | decide +kernel, ⟨by have := HK.out; omega⟩, ⟨⟨_, rfl⟩⟩⟩
      | j + 4 => exact absurd HK.out (by omega)

end Go.Proofs.Ytpdpkjdkafmmhaa.VM
