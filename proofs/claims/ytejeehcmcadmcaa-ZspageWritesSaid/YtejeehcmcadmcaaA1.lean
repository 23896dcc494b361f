/- gunnylaw16.all, walked. -/
import Derived.Test.YtejeehcmcadmcaaY4
namespace Go.Proofs.Ytejeehcmcadmcaa.Hand
set_option linter.unusedVariables false
set_option linter.unusedSimpArgs false
open Go.RowKit Go.Proofs.Ytejeehcmcadmcaa.R Go.Proofs.YtejeehcmcadmcaaW.PrintWords Go.Proofs.YtejeehcmcadmcaaW.PrintLast Go.Proofs.YtejeehcmcadmcaaW.PrintMore

theorem Ci_at {k : IntKind} {w : World} {A : Option Addr} {n : Nat} {xs : List Int} (h : (Kd.int k).C w A n xs) (i : Nat) (hi : i < xs.length) : ∃ ad, A = some ad ∧ w.cell? (ad.add i) = some (.int k xs[i]) := by
  have hR := Kd.reads_of_C (enc := Value.int k) (d := (0 : Int)) (h1 := fun _ => rfl) h
  have hn : n = xs.length := h.1.symm
  obtain ⟨ad, ha, hc⟩ := hR.2.2 (by omega)
  refine ⟨ad, ha, ?_⟩
  rw [hc i (by omega)]
  simp [hi]
def allB (own B : List Int) (ls : List Int) : List Int := ls.flatMap fun f => part own B f 0 4096
set_option maxHeartbeats 8000000 in
set_option maxRecDepth 100000 in
theorem all_calls (base : Nat) (a : RA) (own F : List Int) (t : Int) (B : List Int) (nb c : Nat) (ls : List Int) (w : World) (h : Ram w base a own F t B) {gm gf : Nat} (hg : Gd own F B gm gf)
    (hr : w.heap[nb]? = some (.cells (ls.map (Value.int .i64)).toArray 3 (0, 0))) (hl : ls.length ≤ 100) (hnb : nb ≠ a.g) :
    Calls Try.prog 13 #[.pointer (some ⟨a.g, 0, none⟩), .slice (some ⟨nb, 0, none⟩) ls.length c] w fun e w' => ∃ A c2, e = .returned (.slice A (allB own B ls).length c2) ∧ RB w' w.heap.size (fun _ => True) (.slice A (allB own B ls).length c2) (allB own B ls) ∧ Ram w' base a own F t B ∧ Far (fun i => i = a.g) w w' := by
  have hgl := (h.own_lt a.g (.inl rfl)).2
  replace h := Aside0.mk h
  replace hr := Aside0.mk hr
  replace hg := Aside0.mk hg
  go_enter Try.func13, Try.ntmps13
  go_wp2
  go_loopg [5, 6, 7, 8] ls.length (fun kq v5 v6 v7 v8 w' => ∃ (i : Nat) (A : Option Addr) (c2 : Nat), v6 = .int .i64 (i : Int) ∧ v5 = .slice A (allB own B (ls.take i)).length c2 ∧ Aside0 (i + kq = ls.length) ∧ Aside0 (RB w' w.heap.size (fun _ => True) (.slice A (allB own B (ls.take i)).length c2) (allB own B (ls.take i))) ∧ Aside0 (Ram w' base a own F t B) ∧ Aside0 (Far (fun i => i = a.g) w w'))
  case atStart => exact ⟨0, none, 0, rfl, rfl, ⟨by omega⟩, ⟨Kd.R_nil _ _ _ _ _⟩, h, ⟨Far.refl _ _⟩⟩
  case round =>
    obtain ⟨i, A, c2, rfl, rfl, HK, HR, HM, HF⟩ := hrel
    cases gk with
    | zero =>
      obtain rfl : i = ls.length := by have := HK.out; omega
      have e1 : decide ((ls.length : Int) < (ls.length : Int)) = false := decide_eq_false (by omega)
      rw [List.take_length] at HR
      simp only [List.take_length]
      go_wp2
      go_returns
      exact ⟨A, c2, rfl, HR.out, HM.out, HF.out⟩
    | succ kk =>
      have hi : i < ls.length := by have := HK.out; omega
      have e1 : decide ((i : Int) < (ls.length : Int)) = true := decide_eq_true (by omega)
      have e2 : decide (i < ls.length) = true := decide_eq_true hi
      have i0 : (0 : Int) ≤ (i : Int) := by omega
      have i1 : (i : Int) < (ls.length : Int) := by omega
      obtain ⟨f, hf⟩ : ∃ f, f = ls[i] := ⟨_, rfl⟩
      have hblk := HF.out.blk hr.out (fun e => hnb e)
      have kf : wr.cell? ⟨nb, i, none⟩ = some (.int .i64 f) := by rw [blk_cell hblk i]; simp [hi, hf]
      have hRd := read_any base a own F t B f 0 4096 wr HM.out hg.out (by omega)
      obtain ⟨P, hP⟩ : ∃ P, P = part own B f 0 4096 := ⟨_, rfl⟩
      obtain ⟨L, hL⟩ : ∃ L, L = allB own B (ls.take i) := ⟨_, rfl⟩
      have hnext : allB own B (ls.take (i + 1)) = L ++ P := by
        rw [hL, hP]
        unfold allB
        rw [List.take_succ_eq_append_getElem hi, List.flatMap_append, List.flatMap_singleton, hf]
      have hPl : P.length ≤ 4096 := by rw [hP]; exact part_le own B f 0 4096
      have hLl : L.length ≤ 4096 * 100 := by
        have h1 := flat_le (fun f => part own B f 0 4096) 4096 (ls.take i) (fun x _ => part_le own B x 0 4096)
        have h2 : (ls.take i).length ≤ 100 := by rw [List.length_take]; omega
        have h3 : 4096 * (ls.take i).length ≤ 4096 * 100 := Nat.mul_le_mul_left _ h2
        rw [hL]
        exact Nat.le_trans h1 h3
      rw [← hP] at hRd
      rw [← hL] at HR ⊢
      have ws := Aside0.mk (w64s i (by omega))
      replace hRd := Aside0.mk hRd
      replace hP := Aside0.mk hP
      replace hL := Aside0.mk hL
      replace hf := Aside0.mk hf
      replace hnext := Aside0.mk hnext
      replace hPl := Aside0.mk hPl
      replace hLl := Aside0.mk hLl
      clear hblk
      go_upto_region 6 with (go_at_call 22; refine hRd.out.mono ?_; rintro e w7 ⟨A7, c7, rfl, hr7, hR7, hf7⟩; replace hr7 := Aside0.mk hr7; replace hR7 := Aside0.mk hR7; replace hf7 := Aside0.mk hf7)
      have hz := HF.out.size
      have hz7 := hf7.out.size
      have hrow7 : RB w7 w.heap.size (fun _ => True) (.slice A L.length c2) L := Kd.R_mono (Kd.R_step (Kd.R_tight rfl HR.out) (fun j hj hlt => hf7.out.block j hlt (fun e => by have e' : j = a.g := e; have := Kd.R_base HR.out j hj.symm; omega))) (fun _ _ => trivial)
      have hR7' := Kd.R_reads' hr7.out
      replace hrow7 := Aside0.mk hrow7
      replace hR7' := Aside0.mk hR7'
      go_wp2_with (first | ((with_reducible refine gate_builtin (b := .append) (xs := #[.tmp 24, .tmp 25]) rfl ?_); at_builtin; refine Kd.R_append_row (Value.int .u8) 0 (w0 := w7) w.heap.size rfl (.tmp 24) (.tmp 25) 36 5 (.int .u8 0) 1 rfl Try.underlying36 info5 rfl (by decide) (.slice A L.length c2) L P A7 P.length c7 (fun _ => True) rfl rfl (fun _ _ => trivial) hrow7.out hR7'.out.2.2 ?aB ?aS ?aL ?_; (case aB => exact Below.refl _ _); (case aS => omega); (case aL => have := hPl.out; have := hLl.out; omega); intro v8 w8 ho8 hb8 hg8 hat8; obtain ⟨A8, c8, e8⟩ := Kd.R_slice ho8; subst e8; replace ho8 := Aside0.mk ho8; replace hb8 := Aside0.mk hb8; replace hg8 := Aside0.mk hg8; replace hat8 := Aside0.mk hat8))
      have hfar8 : Far (fun j => w.heap.size ≤ j) w7 w8 := ⟨hg8.out.os, hg8.out.tape, hg8.out.output, hg8.out.size, fun j hlt hn => hg8.out.block j hlt (fun e => hn (Kd.R_base hrow7.out j e.symm))⟩
      replace hfar8 := Aside0.mk hfar8
      go_roundg kk
      case measure => omega
      case rel => exact ⟨i + 1, A8, c8, rfl, by rw [hnext.out, List.length_append], ⟨by have := HK.out; omega⟩, ⟨by rw [hnext.out]; exact ho8.out⟩, ⟨hR7.out.stay hfar8.out (fun k hk e => by have e' : w.heap.size ≤ k := e; have := (h.out.own_lt k hk).2; omega)⟩, ⟨(HF.out.then_ hf7.out).trans hfar8.out (fun j hj => .inr hj)⟩⟩

end Go.Proofs.Ytejeehcmcadmcaa.Hand
