/- ZspageReads: row, walked. -/
import Derived.Test.YtejeehcmcadmcaaR1
import Derived.Deep.QuietTactic
import Derived.BigQuiet
namespace Go.Proofs.Ytejeehcmcadmcaa.Hand
set_option linter.unusedVariables false
set_option linter.unusedSimpArgs false
open Go.RowKit Go.Proofs.Ytejeehcmcadmcaa.R Go.Proofs.YtejeehcmcadmcaaW.PrintWords Go.Proofs.YtejeehcmcadmcaaW.PrintLast Go.Proofs.YtejeehcmcadmcaaW.PrintMore

theorem made_zeros (n : Nat) : madeCells #[Value.int .u8 0] n = ((List.replicate n (0 : Int)).map (Value.int .u8)).toArray := by
  unfold madeCells
  apply Array.ext'
  simp
  apply List.ext_getElem <;> simp
  intro i _
  simp [Nat.mod_one]
theorem make4096 : ∃ Zc : Array Value, Zc = ((List.replicate 4096 (0 : Int)).map (Value.int .u8)).toArray ∧ ∀ w, (Instr.makeSlice 36 (.int .i64 4096) (.int .i64 4096)).run Try.prog w = .ok (.slice (some ⟨w.heap.size, 0, none⟩) 4096 4096) (w.alloc (.cells Zc 5)) :=
  ⟨_, rfl, fun w => by rw [← made_zeros]; exact run_make_row' (P := Try.prog) 36 5 (.int .u8 0) 1 Try.underlying36 info5 rfl .i64 .i64 4096 (by decide) (by decide) w⟩
theorem w64s (i : Nat) (h : i < 1000000) : wrap64 ((i : Int) + 1) = ((i + 1 : Nat) : Int) := by unfold wrap64; omega
theorem w64i (x : Int) (h0 : 0 ≤ x) (h1 : x < 1000000) : wrap64 x = x := by unfold wrap64; omega
set_option maxRecDepth 100000 in
theorem pat_val (i q : Nat) (hi : i < 4) (hq : q < 4096) : wrap64 (wrap64 (7 * (i : Int)) + (q : Int) % 251) % 256 = (((7 * i + q % 251) % 256 : Nat) : Int) := by
  have h1 : wrap64 (7 * (i : Int)) = 7 * (i : Int) := w64i _ (by omega) (by omega)
  have h2 : wrap64 (7 * (i : Int) + (q : Int) % 251) = 7 * (i : Int) + (q : Int) % 251 := w64i _ (by omega) (by omega)
  rw [h1, h2]
  push_cast
  rfl
set_option maxRecDepth 100000 in
theorem pat_set (i q : Nat) (hi : i < 4) (hq : q < 4096) : ((pat i).take q ++ List.replicate (4096 - q) 0).set q (wrap64 (wrap64 (7 * (i : Int)) + (q : Int) % 251) % 256) = (pat i).take (q + 1) ++ List.replicate (4096 - (q + 1)) 0 := by
  have hl : ((pat i).take q).length = q := by rw [List.length_take, pat_length]; omega
  rw [List.set_append_right _ _ (by omega), hl, Nat.sub_self, show 4096 - q = (4096 - (q + 1)) + 1 by omega, List.replicate_succ, List.set_cons_zero, List.take_succ_eq_append_getElem (by rw [pat_length]; exact hq), List.append_assoc, List.singleton_append, pat_val i q hi hq]
  congr 2
  unfold pat
  simp
theorem far_low {S : Nat → Prop} {base : Nat} {w1 w w' : World} (h : Below base w1 w) (f : Far S w w') (hb : base ≤ w.heap.size) (hS : ∀ k, S k → base ≤ k) : Below base w1 w' := h.trans (f.below hb hS)
set_option maxHeartbeats 16000000 in
set_option maxRecDepth 100000 in
theorem row_calls (w : World) : Calls Try.prog 9 #[] w fun e w' => ∃ (a : RA) (t : Int) (nb : Nat), e = .returned (.tuple #[.pointer (some ⟨a.g, 0, none⟩), .slice (some ⟨nb, 0, none⟩) 3 3, .bool true]) ∧ Ram w' w.heap.size a (ownR 4) (dn 8 4) t (BR 4) ∧ Gd (ownR 4) (dn 8 4) (BR 4) 8 8 ∧ w'.heap[nb]? = some (.cells #[.int .i64 2, .int .i64 0, .int .i64 1] 3 (0, 0)) ∧ w.heap.size ≤ nb ∧ Below w.heap.size w w' := by
  obtain ⟨B0, hB0⟩ : ∃ B, B = w.heap.size := ⟨_, rfl⟩
  have hN := ram_new 8 (by omega) (by omega) w
  rw [← hB0] at hN ⊢
  replace hN := Aside0.mk hN
  replace hB0 := Aside0.mk hB0
  go_enter Try.func9, Try.ntmps9
  go_upto_region 4 with (go_at_call 18; refine hN.out.mono ?_; rintro e w3 ⟨a, rfl, hs, hb3⟩; have hR0 : Aside0 (Ram w3 B0 a (ownR 0) (dn 8 0) 0 (BR 0)) := ⟨⟨0, hs⟩⟩; replace hb3 := Aside0.mk hb3; clear hs)
  have hD0 : Aside0 (Gd (ownR 0) (dn 8 0) (BR 0) 8 8) := ⟨RG.new 8 (by omega)⟩
  obtain ⟨g, hg⟩ : ∃ g, g = a.g := ⟨_, rfl⟩
  rw [← hg]
  replace hg := Aside0.mk hg
  clear hN
  go_wp2
  go_loopg [5] 4 (fun kq v5 w' => ∃ (i : Nat) (a : RA) (t : Int), v5 = .int .i64 (i : Int) ∧ Aside0 (i + kq = 4) ∧ Aside0 (a.g = g) ∧ Aside0 (Ram w' B0 a (ownR i) (dn 8 i) t (BR i)) ∧ Aside0 (Gd (ownR i) (dn 8 i) (BR i) 8 8) ∧ Aside0 (Below B0 w w'))
  case atStart => exact ⟨0, a, 0, rfl, ⟨by omega⟩, ⟨hg.out.symm⟩, hR0, hD0, hb3⟩
  case round =>
    obtain ⟨i, a, t, rfl, HK, HG, HR, HD, HB⟩ := hrel
    clear hR0 hD0 hb3 hg
    obtain rfl := HG.out
    clear HG
    cases gk with
    | zero =>
      obtain rfl : i = 4 := by have := HK.out; omega
      go_wp2
      have hb := below_alloc (Below.refl wr.heap.size wr) (.cells #[.int .i64 2, .int .i64 0, .int .i64 1] 3 (0, 0))
      have hn := blk_new wr (.cells #[.int .i64 2, .int .i64 0, .int .i64 1] 3 (0, 0))
      go_returns
      exact ⟨a, t, wr.heap.size, rfl, HR.out.below hb, HD.out, hn, HR.out.gt, far_low HB.out (Far.of_below (S := fun _ => False) hb) HR.out.gt (fun _ h => h.elim)⟩
    | succ k =>
      have hi : i < 4 := by have := HK.out; omega
      have e1 : decide ((i : Int) < 4) = true := decide_eq_true (by omega)
      have e2 : decide (i < 4) = true := decide_eq_true hi
      have hT := take_any B0 a (ownR i) (dn 8 i) t (BR i) 3 wr HR.out HD.out
      have hD1 := HD.out.take t 3
      rw [tkR i hi t] at hT hD1
      simp only [if_true, Int.toNat_natCast, BR_take i (by omega)] at hT hD1
      replace hT := Aside0.mk hT
      replace hD1 := Aside0.mk hD1
      have hgt := Aside0.mk HR.out.gt
      have hown := Aside0.mk (fun k hk => (HR.out.own_lt k hk).1)
      have ws := Aside0.mk (w64s i (by omega))
      replace hi := Aside0.mk hi
      clear HR HD
      go_upto_region 8 with (go_at_call 19; refine hT.out.mono ?_; rintro e w5 ⟨A2, c2, rfl, hr5, hf5, hk5⟩; replace hr5 := Aside0.mk hr5; replace hf5 := Aside0.mk hf5; clear hk5)
      go_upto_region 9 with ((with_reducible refine gate_dst (N := 29) rfl ?_); refine Kd.R_make (Kd.int .u8) (w0 := w5) w5.heap.size 5 rfl (N := 29) rfl 36 _ _ rfl 4096 rfl rfl Try.underlying36 (.int .u8 0) 1 info5 rfl (by decide) (by decide) 0 (ok := fun _ => True) (okp := fun _ => True) rfl (fun _ hk => hk) trivial (by decide) (by decide) (Below.refl _ _) (Nat.le_refl _) ?_; intro v0 w6 hr hbl hgr hat; obtain ⟨nb, ho, hoge⟩ := hat; obtain ⟨A0, cb, e0⟩ := Kd.R_slice hr; subst e0; obtain ⟨ad, rfl⟩ : ∃ ad, A0 = some ad := (by cases A0 with | none => simp [Value.ownBlock] at ho | some ad => exact ⟨ad, rfl⟩); obtain ⟨b', rfl⟩ := Kd.R_head hr; obtain rfl : b' = nb := (by simpa [Value.ownBlock] using ho); replace hr := Aside0.mk (Kd.R_mono (Kd.R_tight rfl hr) (fun k hk => Option.some.inj hk : ∀ k, some k = (Value.slice (some ⟨b', 0, none⟩) _ _).ownBlock → k = b')); replace hbl := Aside0.mk hbl; replace hoge := Aside0.mk hoge; clear hgr ho)
      have hr6 := Aside0.mk (hr5.out.below hbl.out)
      have hlt6 := Aside0.mk (fun k hk => (hr5.out.own_lt k hk).2)
      have hB5 := Aside0.mk hr5.out.gt
      have hB6 := Aside0.mk (far_low (far_low HB.out hf5.out hgt.out (fun k hk => hown.out k hk)) (Far.of_below (S := fun _ => False) hbl.out) hr5.out.gt (fun _ h => h.elim))
      have hr' : Aside0 (RB w6 w5.heap.size (fun x => x = b') (.slice (some ⟨b', 0, none⟩) 4096 cb) ((pat i).take 0 ++ List.replicate (4096 - 0) 0)) := ⟨by have := hr.out; rw [List.length_replicate] at this; exact this⟩
      clear hr hr5 hf5 hbl HB hT hgt hown
      obtain ⟨N5, hN5⟩ : ∃ N, N = w5.heap.size := ⟨_, rfl⟩
      rw [← hN5] at hoge hr' hlt6 hB5
      clear hN5
      go_wp2
      go_loopg [9] 4096 (fun kq v9 w' => ∃ k : Nat, v9 = .int .i64 (k : Int) ∧ Aside0 (k + kq = 4096) ∧ Aside0 (RB w' N5 (fun x => x = b') (.slice (some ⟨b', 0, none⟩) 4096 cb) ((pat i).take k ++ List.replicate (4096 - k) 0)) ∧ Aside0 (Ram w' B0 (a.at A2 c2) (ownR (i + 1)) (dn 8 (i + 1)) (wrap64 (t + 1)) (BR i)) ∧ Aside0 (Below B0 w w'))
      case atStart => exact ⟨0, rfl, ⟨by omega⟩, hr', hr6, hB6⟩
      case round =>
        obtain ⟨q, rfl, HK2, HRow, HR2, HB2⟩ := hrel
        clear hr' hr6 hB6
        cases gk with
        | zero =>
          obtain rfl : q = 4096 := by have := HK2.out; omega
          have hrow : RB wr N5 (fun x => x = b') (.slice (some ⟨b', 0, none⟩) 4096 cb) (pat i) := by
            have := HRow.out
            rw [List.take_of_length_le (by rw [pat_length]; omega), Nat.sub_self, List.replicate_zero, List.append_nil] at this
            exact this
          have hC := (Kd.R_reads' hrow).2.2
          have hW := write_any B0 (a.at A2 c2) (ownR (i + 1)) (dn 8 (i + 1)) (wrap64 (t + 1)) (BR i) (i : Int) 0 (some ⟨b', 0, none⟩) cb (pat i) wr HR2.out hD1.out hC (by rw [pat_length]; decide) (fun ad e hp he => by
            have h1 := hlt6.out a.g (.inl rfl)
            have h2 := hoge.out
            cases e
            have he' : b' = a.g := he
            omega)
          have hpk : pk (ownR (i + 1)) (i : Int) 0 ((pat i).length : Int) := by
            rw [pat_length]
            exact pkR (i + 1) i 0 4096 (by omega) (by have := hi.out; omega) (by omega) trivial
          have hwB : wrB (ownR (i + 1)) (BR i) (i : Int) 0 (pat i) = BR (i + 1) := by
            unfold wrB
            rw [if_pos hpk, Int.toNat_natCast]
            exact BR_write i (by have := hi.out; omega)
          have hgd := hD1.out.wr (i : Int) 0 (pat i) (isBytes_pat i)
          rw [hwB] at hW hgd
          rw [decide_eq_true hpk, pat_length] at hW
          replace hW := Aside0.mk hW
          replace hgd := Aside0.mk hgd
          clear hrow hC hpk hwB HRow
          go_upto_region 6 with (go_at_call 20; refine hW.out.mono ?_; rintro e w7 ⟨rfl, hr7, hf7⟩; replace hr7 := Aside0.mk hr7; replace hf7 := Aside0.mk hf7)
          have hB7 := Aside0.mk (far_low HB2.out hf7.out HR2.out.gt (fun k hk => by rcases hk with e | e; (rw [e]; exact (HR2.out.own_lt _ (.inl rfl)).1); (rw [e]; exact (HR2.out.own_lt _ (.inr (.inl rfl))).1)))
          go_wp2
          go_roundg k
          case measure => omega
          case rel => exact ⟨i + 1, a.at A2 c2, wrap64 (t + 1), by first | rw [ws.out] | rfl, ⟨by have := HK.out; omega⟩, ⟨rfl⟩, hr7, hgd, hB7⟩
        | succ kk =>
          have hq : q < 4096 := by have := HK2.out; omega
          have f1 : decide ((q : Int) < 4096) = true := decide_eq_true (by omega)
          have f2 : decide (q < 4096) = true := decide_eq_true hq
          have q0 : (0 : Int) ≤ (q : Int) := by omega
          have q1 : (q : Int) < 4096 := by omega
          obtain ⟨kb, fb⟩ := Kd.R_celln (0 : Int) HRow.out (q : Int) (by omega) (by omega)
          have hput := Kd.R_putn HRow.out (q : Int) (wrap64 (wrap64 (7 * (i : Int)) + (q : Int) % 251) % 256)
          rw [Int.toNat_natCast, pat_set i q hi.out hq] at hput
          rw [Int.toNat_natCast] at kb fb
          replace hput := Aside0.mk hput
          replace hq := Aside0.mk hq
          have hf := Aside0.mk (Far.setCell (S := fun x => x = b') (Far.refl _ wr) (p := ⟨b', q, none⟩) (.inl rfl) (.int .u8 (wrap64 (wrap64 (7 * (i : Int)) + (q : Int) % 251) % 256)))
          go_wp2
          go_roundg kk
          case measure => omega
          case rel => exact ⟨q + 1, rfl, ⟨by have := HK2.out; omega⟩, hput, ⟨HR2.out.stay hf.out (fun k hk e => by have h1 := hlt6.out k hk; have h2 := hoge.out; omega)⟩, ⟨far_low HB2.out hf.out HR2.out.gt (fun k hk => by have h1 := hB5.out; have h2 := hoge.out; omega)⟩⟩

end Go.Proofs.Ytejeehcmcadmcaa.Hand
