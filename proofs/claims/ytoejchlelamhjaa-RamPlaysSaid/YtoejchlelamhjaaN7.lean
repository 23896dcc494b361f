/- RamPlays, walked. -/
import Derived.Test.YtoejchlelamhjaaN10
import Derived.Test.YtoejchlelamhjaaN9
import Derived.Deep.RegionLaw
import Derived.Test.YtoejchlelamhjaaM6
import Derived.Deep.QuietTactic
import Derived.BigQuiet
import Derived.Deep.RegionHeld3
namespace Go.Proofs.Ytoejchlelamhjaa.Hand
set_option linter.unusedVariables false
set_option linter.unusedSimpArgs false
open Go.RowKit Go.Proofs.Ytoejchlelamhjaa.R Go.Proofs.Ytoejchlelamhjaa.Byt Go.Proofs.YtoejchlelamhjaaW.PrintWords Go.Proofs.YtoejchlelamhjaaW.PrintLast Go.Proofs.YtoejchlelamhjaaW.PrintMore

theorem cnt_idx (own : List Int) (v : Int) (i : Nat) (h : i ≤ own.length) : cnt own [v] i = (idx own v i).length := by
  rw [← idx_cnt own v i h]
  unfold cnt
  congr 2
  funext x
  simp
abbrev Z57 : Obj := .cells #[.slice none 0 0, .slice none 0 0, .int .i64 0, .slice none 0 0] 57 (0, 0)
theorem C_one {w : World} {k : IntKind} {b : Nat} {x : Int} (h : w.cell? ⟨b, 0, none⟩ = some (.int k x)) : Kd.C (Kd.int k) w (some ⟨b, 0, none⟩) [x].length [x] := by
  refine ⟨rfl, by show 1 ≤ _; decide, fun _ => ⟨_, rfl, fun j p hp => ?_⟩⟩
  match j, hp with
  | 0, hp =>
    have hp' : x = p := Option.some.inj hp
    subst hp'
    refine ⟨[.int k x], rfl, rfl, fun i u hu => ?_⟩
    match i, hu with
    | 0, hu =>
      have hu' : Value.int k x = u := Option.some.inj hu
      subst hu'
      exact h
    | i + 1, hu => simp at hu
  | j + 1, hp => simp at hp
/-- A read touches. -/
theorem ST.touch {w0 w w' : World} {a : RA} {own F : List Int} {t : Int} {B : List Int} {q q' : Int} {wh : List Int} {now : Int} {L : List S83} {u0 u1 u3 : Value} {m i : Nat} (h : ST w0 w a own F t B q wh now L u0 u1 u3 m i) (hr : RS w' w0.heap.size a ⟨own, F, t, B, q'⟩) (hf : Far (fun k => k = a.g) w w') : ST w0 w' a own F t B q' wh now L u0 u1 u3 m i :=
  ⟨hr, h.xf.stay hf (fun k e => .inl e), h.pi, h.bel.trans (hf.below h.bel.size (fun k e => by rw [e]; exact (h.rs.own_lt _ (.inl rfl)).1)), h.now, h.len, h.m96, h.i60⟩
theorem cell_lt {w : World} {p : Addr} {u : Value} (h : w.cell? p = some u) : p.block < w.heap.size := by
  unfold World.cell? at h
  rcases Nat.lt_or_ge p.block w.heap.size with hl | hl
  · exact hl
  · rw [Array.getElem?_eq_none hl] at h
    simp at h
theorem V_empty (w : World) (base : Nat) (ok : Nat → Prop) (A : Option Addr) (c : Nat) : Kd.V k83 83 w base ok (.slice A ([] : List S83).length c) [] := ⟨A, c, rfl, Nat.zero_le _, fun W' _ => ⟨rfl, by simp, fun h => absurd h (Nat.lt_irrefl 0)⟩⟩
theorem ST.start {w0 w1 w2 w3 : World} {a : RA} {m : Nat} {A0 A1 A3 : Option Addr} {c0 c1 c3 : Nat} (hm : m ≤ 96) (hs : RS w1 w0.heap.size a ⟨List.replicate m 0, dn m 0, 0, List.replicate (4096 * m) 0, 0⟩) (hb0 : Below w0.heap.size w0 w1) (hb2 : Below w1.heap.size w1 w2) (hb3 : Below w2.heap.size w2 w3)
    (r0 : Kd.R (Kd.int .i64) 3 w3 w2.heap.size (fun k_ => some k_ ≠ (Value.slice A1 (whens m m).length c1).ownBlock) (.slice A0 (List.replicate m (0 : Int)).length c0) (List.replicate m 0)) (r1 : Kd.R (Kd.int .i64) 3 w3 w2.heap.size (fun k_ => some k_ ≠ (Value.slice A0 (List.replicate m (0 : Int)).length c0).ownBlock) (.slice A1 (whens m m).length c1) (whens m m)) :
    ST w0 w3 a (List.replicate m 0) (dn m 0) 0 (List.replicate (4096 * m) 0) 0 (whens m m) m [] (.slice A0 (List.replicate m (0 : Int)).length c0) (.slice A1 (whens m m).length c1) (.slice A3 ([] : List S83).length c3) m 0 := by
  have h12 := hb2.size
  have h01 := hb0.size
  have hn : ∀ k, w2.heap.size ≤ k → ¬ Rown a k := fun k hk hr => by have := (hs.own_lt k hr).2; omega
  exact ⟨hs.below (hb2.trans (hb3.mono h12)), ⟨Kd.R_lower (Kd.R_mono (Kd.R_bound r0) (fun k hk => ⟨hn k hk.2.1, hk.1⟩)) (by omega), Kd.R_lower (Kd.R_mono (Kd.R_bound r1) (fun k hk => ⟨hn k hk.2.1, hk.1⟩)) (by omega), V_empty _ _ _ _ _⟩, PI.new m hm, below_step (below_step hb0 hb2) hb3, by omega, Nat.le_refl _, hm, by omega⟩
theorem rd26' (l : List S26) (i : Nat) (h : i < l.length) : rd_T26 l (i : Int) = l[i] := by unfold rd_T26; simp [h]
set_option maxHeartbeats 16000000 in
set_option maxRecDepth 100000 in
theorem plays_law (W : World) (many : Int) (A : Option Addr) (c : Nat) (ls : List S26) (hC : Kd.C k26 W A ls.length ls) (hc : ls.length ≤ c) (hwf : ∀ x ∈ ls, DeedWf x) :
    Calls Try.prog 5 #[.int .i64 many, .slice A ls.length c] W fun e w' => e = .returned (.bool true) ∧ Below W.heap.size W w' := by
  obtain ⟨gr, hgr, hgr60⟩ := great_some ls
  have hB := Aside0.mk (Below.refl W.heap.size W)
  have hCl := Aside0.mk (fun W' (hb : Below W.heap.size W W') => Kd.C_below hC hb)
  have hG := Aside0.mk (fun W' (hb : Below W.heap.size W W') => gunnylaw06_great.calls (ls.length + 1) A c ls gr W' (Kd.C_below hC hb) hc hgr)
  replace hgr60 := Aside0.mk hgr60
  replace hC := Aside0.mk hC
  replace hwf := Aside0.mk hwf
  replace hc := Aside0.mk hc
  clear hgr
  by_cases hm : many < 8 ∨ 96 < many
  · have hN := fun w => ram_new_no many hm w
    replace hN := Aside0.mk hN
    have f0 : decide (many < 8) = true ∨ (decide (many < 8) = false ∧ decide (many > 96) = true ∧ decide (96 < many) = true) := by
      by_cases h : many < 8
      · exact .inl (decide_eq_true h)
      · exact .inr ⟨decide_eq_false h, decide_eq_true (by omega), decide_eq_true (by omega)⟩
    clear hm
    rcases f0 with f1 | ⟨f1, f2, f3⟩
    all_goals
      go_enter Try.func5, Try.ntmps5
      go_wp2_with (first
        | (go_at_call 11; refine (nil_read _).mono ?_; rintro e w1 ⟨An, cn, rfl, hb1⟩; replace hB := Aside0.mk (below_step hB.out hb1); clear hb1)
        | (go_at_call 15; refine (nil_getword _).mono ?_; rintro e w1 ⟨rfl, hb1⟩; replace hB := Aside0.mk (below_step hB.out hb1); clear hb1)
        | (go_at_call 9; refine (nil_rtake _).mono ?_; rintro e w1 ⟨rfl, rfl⟩)
        | (go_at_call 10; refine (nil_write _).mono ?_; rintro e w1 ⟨rfl, rfl⟩)
        | (go_at_call 18; refine (nil_setword _).mono ?_; rintro e w1 ⟨rfl, hb1⟩; replace hB := Aside0.mk (below_step hB.out hb1); clear hb1)
        | (go_at_call 19; refine (nil_touches _).mono ?_; rintro e w1 ⟨rfl, rfl⟩)
        | (go_at_call 8; refine (hN.out _).mono ?_; rintro e w1 ⟨rfl, rfl⟩)
        | (go_at_call 7; refine (lives_calls _).mono ?_; rintro e w1 ⟨rfl, hb1⟩; replace hB := Aside0.mk (below_step hB.out hb1); clear hb1))
      go_returns
      exact ⟨rfl, hB.out⟩
  · obtain ⟨m, rfl⟩ : ∃ m : Nat, many = (m : Int) := ⟨many.toNat, by omega⟩
    have hm8 : 8 ≤ m := by omega
    have hm96 : m ≤ 96 := by omega
    have f1 : decide ((m : Int) < 8) = false := decide_eq_false (by omega)
    have f2 : decide ((m : Int) > 96) = false := decide_eq_false (by omega)
    have f3 : decide (96 < (m : Int)) = false := decide_eq_false (by omega)
    have f4 : decide (m < 8) = false := decide_eq_false (by omega)
    have f5 : decide (96 < m) = false := decide_eq_false (by omega)
    have hN := Aside0.mk (fun w => ram_new m hm8 hm96 w)
    have hmm := Aside0.mk (And.intro hm8 hm96)
    clear hm hm8 hm96
    cases gr with
    | true =>
      go_enter Try.func5, Try.ntmps5
      go_wp2_with (first
        | (go_at_call 11; refine (nil_read _).mono ?_; rintro e w1 ⟨An, cn, rfl, hb1⟩; replace hB := Aside0.mk (below_step hB.out hb1); clear hb1)
        | (go_at_call 15; refine (nil_getword _).mono ?_; rintro e w1 ⟨rfl, hb1⟩; replace hB := Aside0.mk (below_step hB.out hb1); clear hb1)
        | (go_at_call 9; refine (nil_rtake _).mono ?_; rintro e w1 ⟨rfl, rfl⟩)
        | (go_at_call 10; refine (nil_write _).mono ?_; rintro e w1 ⟨rfl, rfl⟩)
        | (go_at_call 18; refine (nil_setword _).mono ?_; rintro e w1 ⟨rfl, hb1⟩; replace hB := Aside0.mk (below_step hB.out hb1); clear hb1)
        | (go_at_call 19; refine (nil_touches _).mono ?_; rintro e w1 ⟨rfl, rfl⟩)
        | (go_at_call 8; refine (hN.out _).mono ?_; rintro e w1 ⟨a, rfl, hs, hb1⟩; replace hB := Aside0.mk (below_step hB.out hb1); clear hb1 hs)
        | (go_at_call 6; refine (hG.out _ hB.out).mono ?_; rintro e w1 ⟨rfl, hb1⟩; first | (replace hB := Aside0.mk (below_step hB.out hb1)) | (replace hB := Aside0.mk (below_step hB.out hb1.below)); clear hb1)
        | (go_at_call 7; refine (lives_calls _).mono ?_; rintro e w1 ⟨rfl, hb1⟩; replace hB := Aside0.mk (below_step hB.out hb1); clear hb1))
      go_returns
      exact ⟨rfl, hB.out⟩
    | false =>
      have hl60 := Aside0.mk (hgr60.out rfl)
      clear hgr60
      go_enter Try.func5, Try.ntmps5
      go_upto_region 7 with (first
        | (go_at_call 11; refine (nil_read _).mono ?_; rintro e w1 ⟨An, cn, rfl, hb1⟩; replace hB := Aside0.mk (below_step hB.out hb1); clear hb1)
        | (go_at_call 15; refine (nil_getword _).mono ?_; rintro e w1 ⟨rfl, hb1⟩; replace hB := Aside0.mk (below_step hB.out hb1); clear hb1)
        | (go_at_call 9; refine (nil_rtake _).mono ?_; rintro e w1 ⟨rfl, rfl⟩)
        | (go_at_call 10; refine (nil_write _).mono ?_; rintro e w1 ⟨rfl, rfl⟩)
        | (go_at_call 18; refine (nil_setword _).mono ?_; rintro e w0 ⟨rfl, hb1⟩; replace hB := Aside0.mk (below_step hB.out hb1); clear hb1)
        | (go_at_call 19; refine (nil_touches _).mono ?_; rintro e w0 ⟨rfl, rfl⟩))
      clear hN
      have hW0 := Aside0.mk hB.out
      have hN := Aside0.mk (ram_new m hmm.out.1 hmm.out.2 w0)
      have hY := fun W => gunnyref06_New.calls 1001 (m : Int) _ _ _ _ W (show gunnyref06_New.f 1001 (m : Int) = some (List.replicate m 0, whens m m, (m : Int), ([] : List S83)) from by unfold gunnyref06_New.f; rw [rNew m (by have := hmm.out.2; omega)]; rfl)
      replace hY := Aside0.mk hY
      go_upto_region 13 with (first
        | (go_at_call 8; refine hN.out.mono ?_; rintro e w1 ⟨a, rfl, hs, hb1⟩; replace hs := Aside0.mk hs; have hb0 := Aside0.mk hb1; replace hB := Aside0.mk (below_step hB.out hb1); clear hb1)
        | (go_at_call 6; refine (hG.out _ hB.out).mono ?_; rintro e w2 ⟨rfl, hb1⟩; have hb2 := Aside0.mk hb1; replace hB := Aside0.mk (below_step hB.out hb1); clear hb1)
        | (go_at_call 20; refine (hY.out _).mono ?_; rintro e w3 ⟨u0, u1, u3, rfl, r0, r1, r3, hb1⟩; obtain ⟨A0, c0, rfl⟩ := Kd.R_slice r0; obtain ⟨A1, c1, rfl⟩ := Kd.R_slice r1; obtain ⟨A3, c3, rfl⟩ := Kd.V_slice (Kd.S_V (base' := 0) r3); have hS := Aside0.mk (ST.start (A3 := A3) (c3 := c3) hmm.out.2 hs.out hb0.out hb2.out hb1 r0 r1); replace hB := Aside0.mk (below_step hB.out hb1); clear hb1 r0 r1 r3 hb0 hb2 hs))
      obtain ⟨gx, hgx⟩ : ∃ gx, gx = w3.heap.size := ⟨_, rfl⟩
      obtain ⟨w4, hw4⟩ : ∃ w4, w4 = w3.alloc (C57 (.slice A0 m c0) (.slice A1 (whens m m).length c1) m (.slice A3 0 c3)) := ⟨_, rfl⟩
      have hb4 := below_alloc (Below.refl w3.heap.size w3) (C57 (.slice A0 m c0) (.slice A1 (whens m m).length c1) m (.slice A3 0 c3))
      have hx4 := blk_new w3 (C57 (.slice A0 m c0) (.slice A1 (whens m m).length c1) m (.slice A3 0 c3))
      rw [← hw4] at hb4 hx4
      have hS4 := Aside0.mk (hS.out.below hb4)
      have hgt := Aside0.mk (show w0.heap.size ≤ gx by rw [hgx]; exact hS.out.bel.size)
      unfold C57 at hw4
      rw [← hgx] at hx4 ⊢
      rw [← hw4]
      replace hx4 := Aside0.mk hx4
      clear hb4 hw4 hS hY hN hG hB
      obtain ⟨g, hgg⟩ : ∃ g, g = a.g := ⟨_, rfl⟩
      obtain ⟨f, hff⟩ : ∃ f, f = a.f := ⟨_, rfl⟩
      have hga := Aside0.mk (And.intro hgg.symm hff.symm)
      rw [← hgg]
      clear hgx hgg hff
      go_wp2
      go_loopg [15, 16] ls.length (fun kq v15 v16 w' => ∃ (i : Nat) (a : RA) (own F : List Int) (t : Int) (B : List Int) (q : Int) (wh : List Int) (now : Int) (L : List S83) (A0 A1 A3 : Option Addr) (c0 c1 c3 : Nat), v15 = .int .i64 q ∧ v16 = .int .i64 (i : Int) ∧ Aside0 (i + kq = ls.length) ∧ Aside0 (a.g = g ∧ a.f = f) ∧ Aside0 (ST w0 w' a own F t B q wh now L (.slice A0 own.length c0) (.slice A1 wh.length c1) (.slice A3 L.length c3) m i) ∧ Aside0 (w'.heap[gx]? = some (C57 (.slice A0 own.length c0) (.slice A1 wh.length c1) now (.slice A3 L.length c3))))
      case atStart =>
        refine ⟨0, a, _, _, _, _, _, _, _, _, A0, A1, A3, c0, c1, c3, rfl, rfl, ⟨by omega⟩, hga, hS4, ⟨?_⟩⟩
        rw [hx4.out, List.length_replicate]
        rfl
      case round =>
        obtain ⟨i, a, own, F, t, B, q, wh, now, L, A0, A1, A3, c0, c1, c3, rfl, rfl, HK, HG, HS, HX⟩ := hrel
        clear hx4 hS4 hga
        cases gk with
        | zero =>
          have e0 : decide ((i : Int) < (ls.length : Int)) = false := decide_eq_false (by have := HK.out; omega)
          have e0' : decide (i < ls.length) = false := decide_eq_false (by have := HK.out; omega)
          obtain ⟨rfl, rfl⟩ := HG.out
          clear HG HK
          go_wp2
          have hgd := Aside0.mk HS.out.gd
          have hpi := Aside0.mk HS.out.pi
          have hL60 := Aside0.mk (show L.length ≤ 60 by have := HS.out.len; have := HS.out.i60; omega)
          have hol := Aside0.mk HS.out.own_len
          go_loopg [20] m (fun kq v20 w' => ∃ (n : Nat) (q : Int), v20 = .int .i64 (n : Int) ∧ Aside0 (n + kq = m) ∧ Aside0 (ST w0 w' a own F t B q wh now L (.slice A0 own.length c0) (.slice A1 wh.length c1) (.slice A3 L.length c3) m i) ∧ Aside0 (w'.heap[gx]? = some (C57 (.slice A0 own.length c0) (.slice A1 wh.length c1) now (.slice A3 L.length c3))))
          case atStart => exact ⟨0, q, rfl, ⟨by omega⟩, HS, HX⟩
          case round =>
            obtain ⟨n, q2, rfl, HK2, HS2, HX2⟩ := hrel
            clear HS HX e0 e0'
            cases gk with
            | zero =>
              have e0 : decide ((n : Int) < (m : Int)) = false := decide_eq_false (by have := HK2.out; omega)
              have e0' : decide (n < m) = false := decide_eq_false (by have := HK2.out; omega)
              go_wp2_with (go_at_call 7; refine (lives_calls _).mono ?_; rintro e w8 ⟨rfl, hb8⟩; replace hb8 := Aside0.mk hb8)
              go_returns
              exact ⟨rfl, below_step (below_step hW0.out HS2.out.bel) hb8.out⟩
            | succ k =>
              have hnm := HK2.out
              have ho1 := hol.out.1
              have hn : n < own.length := by omega
              have e1 : decide ((n : Int) < (m : Int)) = true := decide_eq_true (by omega)
              have e2 : decide (n < m) = true := decide_eq_true (by omega)
              have n0 : (0 : Int) ≤ (n : Int) := by omega
              have n8 : (n : Int) < (own.length : Int) := by omega
              have ws := Aside0.mk (w64s n (by have := hmm.out.2; omega))
              obtain ⟨ad, rfl, kn⟩ := C_at' (Kd.R_reads' HS2.out.xf.r0).2.2 n hn
              have hoi := ownerOf_in own n hn
              obtain ⟨v, hv⟩ : ∃ v, v = own[n] := ⟨_, rfl⟩
              rw [← hv] at kn hoi
              have x0 : wr.cell? ⟨gx, 0, none⟩ = some (.slice (some ad) own.length c0) := (blk_cell HX2.out 0).trans rfl
              clear hnm ho1 hv
              by_cases hv0 : v = 0
              · have q1 : (v == 0) = true := beq_iff_eq.mpr hv0
                have q2' : (v != 0) = false := by rw [bne, q1]; rfl
                clear hoi hv0 hn
                go_wp2
                go_roundg k
                case measure => omega
                case rel => exact ⟨n + 1, q2, by rw [ws.out], ⟨by have := HK2.out; omega⟩, HS2, HX2⟩
              · have q1 : (v == 0) = false := beq_eq_false_iff_ne.mpr hv0
                have q2' : (v != 0) = true := by rw [bne, q1]; rfl
                have ho : ownerOf own (n : Int) ≠ 0 := by rw [hoi]; exact hv0
                have hpk := (pk_full own n).2 ho
                have hlen : (part own B (n : Int) 0 4096).length = 4096 := by
                  rw [part_full ho, List.length_take, List.length_drop]
                  have hBl : B.length = 4096 * m := hgd.out.B
                  have := hol.out.1
                  omega
                have hrd := read_q w0.heap.size a own F t B q2 (n : Int) 0 4096 wr HS2.out.rs hgd.out (by omega)
                have hRf := Read_part hpi.out (by have := hL60.out; omega) hpk (fun x y z hp => hpi.out.reads x y z hp)
                rw [decide_eq_true hpk] at hrd
                generalize qn q2 (pk own (n : Int) 0 4096) = q3 at hrd
                obtain ⟨X, hX⟩ : ∃ X, X = part own B (n : Int) 0 4096 := ⟨_, rfl⟩
                rw [← hX] at hrd hRf hlen
                rw [hlen] at hrd
                replace hrd := Aside0.mk hrd
                replace hRf := Aside0.mk hRf
                replace hlen := Aside0.mk hlen
                have hgg := Aside0.mk (show gx ≠ a.g from fun e => HS2.out.free HX2.out (.inl (.inl e)))
                clear hoi hv0 hn ho hpk hX
                go_upto_region 28 with (go_at_call 11; refine hrd.out.mono ?_; rintro e w5 ⟨A7, c7, rfl, hr5, hR5, hf5⟩; have hX5 := Aside0.mk (hf5.blk HX2.out hgg.out); have hS5 := Aside0.mk (HS2.out.touch hR5 hf5); replace hr5 := Aside0.mk hr5; clear hR5 hf5)
                have y0 : w5.cell? ⟨gx, 0, none⟩ = some (.slice (some ad) own.length c0) := (blk_cell hX5.out 0).trans rfl
                have y1 : w5.cell? ⟨gx, 1, none⟩ = some (.slice A1 wh.length c1) := (blk_cell hX5.out 1).trans rfl
                have y2 : w5.cell? ⟨gx, 2, none⟩ = some (.int .i64 now) := (blk_cell hX5.out 2).trans rfl
                have y3 : w5.cell? ⟨gx, 3, none⟩ = some (.slice A3 L.length c3) := (blk_cell hX5.out 3).trans rfl
                have hR0 := Kd.R_reads' hS5.out.xf.r0
                have hR1 := Kd.R_reads' hS5.out.xf.r1
                have hR3 := Kd.V_reads' hS5.out.xf.r3
                have hRC := Aside0.mk (gunnyref06_Read.calls 500000 (some ad) c0 own A1 c1 wh now A3 c3 L (n : Int) 0 4096 X w5 hR0.2.2 hR0.2.1 hR1.2.2 hR1.2.1 hR3.2.2 hR3.2.1 hRf.out)
                have hro := Kd.R_reads' (by have := hr5.out; rw [← hlen.out] at this; exact this)
                have hBy := Aside0.mk (fun (A9 : Option Addr) (c9 : Nat) (w6 : World) (hb : Below w5.heap.size w5 w6) (hC : Kd.C (Kd.int .u8) w6 A9 X.length X) (hc : X.length ≤ c9) => gunnyref01_Bytes.calls A7 c7 X A9 c9 X true w6 (Kd.C_below hro.2.2 hb) hro.2.1 hC hc (bytes_self X))
                rw [hlen.out] at hBy
                clear hR0 hR1 hR3 hro x0
                go_upto_region 25 with (first
                  | (go_at_call 23; refine hRC.out.mono ?_; rintro e w6 ⟨v6, rfl, hr6, hb6⟩; obtain ⟨A9, c9, rfl⟩ := Kd.R_slice hr6; have hro6 := Kd.R_reads' hr6; have hBz := Aside0.mk (hBy.out A9 c9 w6 hb6 (by have := hro6.2.2; rw [hlen.out] at this; exact this) (by have := hro6.2.1; rw [hlen.out] at this; exact this)); rw [hlen.out]; replace hb6 := Aside0.mk hb6; clear hr6 hro6)
                  | (go_at_call 14; refine hBz.out.mono ?_; rintro e w7 ⟨rfl, hd7⟩; replace hd7 := Aside0.mk hd7))
                have hb7 := Aside0.mk (below_step hb6.out hd7.out.below)
                go_wp2
                go_roundg k
                case measure => omega
                case rel => exact ⟨n + 1, q3, by rw [ws.out], ⟨by have := HK2.out; omega⟩, ⟨hS5.out.below hb7.out⟩, ⟨blk_below hX5.out hb7.out⟩⟩
        | succ k =>
          obtain ⟨rfl, rfl⟩ := HG.out
          clear HG
          have hi : i < ls.length := by have := HK.out; omega
          have hi6 := Aside0.mk (show i < 60 by have := hl60.out; omega)
          have e1 : decide ((i : Int) < (ls.length : Int)) = true := decide_eq_true (by omega)
          have e2 : decide (i < ls.length) = true := decide_eq_true hi
          obtain ⟨ad, A5, c5, rfl, k0, k1, k2, k3, k4, k5, l5, hC5⟩ := at_T26 hC.out (i : Int) (by omega) (by omega)
          have hdw := hwf.out ls[i] (List.getElem_mem hi)
          rw [rd26' ls i hi] at k0 k1 k2 k3 k4 k5 l5 hC5
          obtain ⟨x, hx⟩ : ∃ x, x = ls[i] := ⟨_, rfl⟩
          rw [← hx] at k0 k1 k2 k3 k4 k5 l5 hC5 hdw
          clear hx
          rw [Int.toNat_natCast] at k0 k1 k2 k3 k4 k5
          have cells : ∀ w', Below W.heap.size W w' → w'.cell? (ad.add (i * 6)) = some (.int .i64 x.f0) ∧ w'.cell? ⟨(ad.add (i * 6)).block, (ad.add (i * 6)).off + 1, none⟩ = some (.int .i64 x.f1) ∧ w'.cell? ⟨(ad.add (i * 6)).block, (ad.add (i * 6)).off + 2, none⟩ = some (.int .i64 x.f2) ∧ w'.cell? ⟨(ad.add (i * 6)).block, (ad.add (i * 6)).off + 3, none⟩ = some (.int .i64 x.f3) ∧ w'.cell? ⟨(ad.add (i * 6)).block, (ad.add (i * 6)).off + 4, none⟩ = some (.int .u64 x.f4) ∧ w'.cell? ⟨(ad.add (i * 6)).block, (ad.add (i * 6)).off + 5, none⟩ = some (.slice A5 x.f5.length c5) := fun w' hb =>
            ⟨cell_far (Far.of_below (S := fun _ => False) hb) (fun h => h) k0, cell_far (Far.of_below (S := fun _ => False) hb) (fun h => h) k1, cell_far (Far.of_below (S := fun _ => False) hb) (fun h => h) k2, cell_far (Far.of_below (S := fun _ => False) hb) (fun h => h) k3, cell_far (Far.of_below (S := fun _ => False) hb) (fun h => h) k4, cell_far (Far.of_below (S := fun _ => False) hb) (fun h => h) k5⟩
          clear k0 k1 k2 k3 k4 k5
          have hWr := Aside0.mk (below_step hW0.out HS.out.bel)
          obtain ⟨y0, y1, y2, y3, y4, y5⟩ := cells wr hWr.out
          have x0 : wr.cell? ⟨gx, 0, none⟩ = some (.slice A0 own.length c0) := (blk_cell HX.out 0).trans rfl
          have x1 : wr.cell? ⟨gx, 1, none⟩ = some (.slice A1 wh.length c1) := (blk_cell HX.out 1).trans rfl
          have x2 : wr.cell? ⟨gx, 2, none⟩ = some (.int .i64 now) := (blk_cell HX.out 2).trans rfl
          have x3 : wr.cell? ⟨gx, 3, none⟩ = some (.slice A3 L.length c3) := (blk_cell HX.out 3).trans rfl
          have xx0 : (wr.alloc (.cells #[.slice none 0 0, .slice none 0 0, .int .i64 0, .slice none 0 0] 57)).cell? ⟨gx, 0, none⟩ = some (.slice A0 own.length c0) := (blk_cell (blk_alloc HX.out Z57) 0).trans rfl
          have xx1 : (wr.alloc (.cells #[.slice none 0 0, .slice none 0 0, .int .i64 0, .slice none 0 0] 57)).cell? ⟨gx, 1, none⟩ = some (.slice A1 wh.length c1) := (blk_cell (blk_alloc HX.out Z57) 1).trans rfl
          have xx2 : (wr.alloc (.cells #[.slice none 0 0, .slice none 0 0, .int .i64 0, .slice none 0 0] 57)).cell? ⟨gx, 2, none⟩ = some (.int .i64 now) := (blk_cell (blk_alloc HX.out Z57) 2).trans rfl
          have xx3 : (wr.alloc (.cells #[.slice none 0 0, .slice none 0 0, .int .i64 0, .slice none 0 0] 57)).cell? ⟨gx, 3, none⟩ = some (.slice A3 L.length c3) := (blk_cell (blk_alloc HX.out Z57) 3).trans rfl
          obtain ⟨yy0, yy1, yy2, yy3, yy4, yy5⟩ := cells (wr.alloc (.cells #[.slice none 0 0, .slice none 0 0, .int .i64 0, .slice none 0 0] 57)) (below_step hWr.out (below_alloc (Below.refl _ wr) _))
          have hfree := Aside0.mk (HS.out.free HX.out)
          have hst := Aside0.mk (fun w' (hb : Below wr.heap.size wr w') => step_any (HS.out.below hb) hi6.out x A5 c5 hdw (Kd.C_below hC5 hW0.out) l5)
          replace cells := Aside0.mk cells
          clear hC5 hdw l5
          go_upto_region 17 with (fail)
          have hlt := Aside0.mk (blk_lt HX.out)
          have hge := Aside0.mk HS.out.bel.size
          have hnz := Aside0.mk (show ¬ (Rown a wr.heap.size ∨ (some wr.heap.size = (Value.slice A0 own.length c0).ownBlock ∨ some wr.heap.size = (Value.slice A1 wh.length c1).ownBlock)) from (by
            rintro (e | e | e)
            · have := (HS.out.rs.own_lt _ e).2; omega
            · have := Kd.R_lt HS.out.xf.r0 _ e.symm; omega
            · have := Kd.R_lt HS.out.xf.r1 _ e.symm; omega))
          go_cut [17, 18, 19] (fun v17 v18 v19 wc => ∃ (gy : Nat) (a2 : RA) (own2 F2 : List Int) (t2 : Int) (B2 : List Int) (q2 : Int) (wh2 : List Int) (now2 : Int) (L2 : List S83) (D0 D1 D3 : Option Addr) (d0 d1 d3 : Nat) (b : Bool), v17 = .pointer (some ⟨gy, 0, none⟩) ∧ v18 = .bool b ∧ v19 = .bool true ∧ Aside0 (q2 = (if b then wrap64 (q + 1) else q)) ∧ Aside0 (a2.g = a.g ∧ a2.f = a.f) ∧ Aside0 (ST w0 wc a2 own2 F2 t2 B2 q2 wh2 now2 L2 (.slice D0 own2.length d0) (.slice D1 wh2.length d1) (.slice D3 L2.length d3) m (i + 1)) ∧ Aside0 (wc.heap[gx]? = some (C57 (.slice A0 own.length c0) (.slice A1 wh.length c1) now (.slice A3 L.length c3))) ∧ Aside0 (wc.heap[gy]? = some (C57 (.slice D0 own2.length d0) (.slice D1 wh2.length d1) now2 (.slice D3 L2.length d3))) ∧ Aside0 (gx ≠ gy))
          case first =>
            go_region_law (first
              | (go_simp; go_at_call 21; refine (hst.out _ (by repeat (first | exact Below.refl _ _ | refine pw_below_drewN ?_ _ | refine below_drew ?_ | refine below_alloc ?_ _))).mono ?_; rintro e w5 ⟨hfar, a2, own2, F2, t2, B2, q2, wh2, now2, L2, D0, D1, D3, d0, d1, d3, b, rfl, hq2, hg2, hS5⟩; have hz5 := hfar.blk (blk_new wr Z57) hnz.out; have hx5 := hfar.blk (blk_alloc HX.out Z57) hfree.out; have z0 : w5.cell? ⟨wr.heap.size, 0, none⟩ = some (.slice none 0 0) := (blk_cell hz5 0).trans rfl; have z1 : w5.cell? ⟨wr.heap.size, 1, none⟩ = some (.slice none 0 0) := (blk_cell hz5 1).trans rfl; have z2 : w5.cell? ⟨wr.heap.size, 2, none⟩ = some (.int .i64 0) := (blk_cell hz5 2).trans rfl; have z3 : w5.cell? ⟨wr.heap.size, 3, none⟩ = some (.slice none 0 0) := (blk_cell hz5 3).trans rfl; have zf := fun j => blk_frozen hz5 j; replace hS5 := Aside0.mk hS5; replace hx5 := Aside0.mk hx5; replace hq2 := Aside0.mk hq2; replace hg2 := Aside0.mk hg2; replace hz5 := Aside0.mk hz5; clear hfar)
              | (go_simp; go_at_call 21; refine (hst.out _ (by repeat (first | exact Below.refl _ _ | refine pw_below_drewN ?_ _ | refine below_drew ?_ | refine below_alloc ?_ _))).mono ?_; rintro e w5 ⟨hfar, a2, own2, F2, t2, B2, q2, wh2, now2, L2, D0, D1, D3, d0, d1, d3, b, rfl, hq2, hg2, hS5⟩; have hx5 := hfar.blk HX.out hfree.out; replace hS5 := Aside0.mk hS5; replace hx5 := Aside0.mk hx5; replace hq2 := Aside0.mk hq2; replace hg2 := Aside0.mk hg2; clear hfar))
            all_goals
              first
                | (obtain ⟨HX4, HW4⟩ := st4_blk hz5.out (.slice D0 own2.length d0) (.slice D1 wh2.length d1) (.int .i64 now2) (.slice D3 L2.length d3)
                   clear z0 z1 z2 z3 zf
                   have hS6 := Aside0.mk (hS5.out.box hz5.out HW4 hge.out)
                   have hx6 := Aside0.mk (HW4.blk hx5.out (by have := hlt.out; omega))
                   have hne6 := Aside0.mk (show gx ≠ wr.heap.size by have := hlt.out; omega)
                   unfold st4 at HX4 HW4 hS6 hx6
                   generalize ((((w5.setCell ⟨wr.heap.size, 0, none⟩ (.slice D0 own2.length d0)).setCell ⟨wr.heap.size, 1, none⟩ (.slice D1 wh2.length d1)).setCell ⟨wr.heap.size, 2, none⟩ (.int .i64 now2)).setCell ⟨wr.heap.size, 3, none⟩ (.slice D3 L2.length d3)) = w6 at HX4 HW4 hS6 hx6 ⊢
                   go_wp2
                   go_meet
                   case rel => exact ⟨_, a2, own2, F2, t2, B2, q2, wh2, now2, L2, D0, D1, D3, d0, d1, d3, b, rfl, rfl, rfl, hq2, hg2, hS6, hx6, ⟨HX4⟩, hne6⟩)
                | (have hb6 := below_alloc (Below.refl w5.heap.size w5) (C57 (.slice D0 own2.length d0) (.slice D1 wh2.length d1) now2 (.slice D3 L2.length d3))
                   have hz6 := Aside0.mk (blk_new w5 (C57 (.slice D0 own2.length d0) (.slice D1 wh2.length d1) now2 (.slice D3 L2.length d3)))
                   have hx6 := Aside0.mk (blk_alloc hx5.out (C57 (.slice D0 own2.length d0) (.slice D1 wh2.length d1) now2 (.slice D3 L2.length d3)))
                   have hS6 := Aside0.mk (hS5.out.below hb6)
                   have hne6 := Aside0.mk (show gx ≠ w5.heap.size by have := blk_lt hx5.out; omega)
                   clear hb6
                   unfold C57 at hS6
                   generalize hw6 : w5.alloc (Obj.cells #[Value.slice D0 own2.length d0, Value.slice D1 wh2.length d1, Value.int IntKind.i64 now2, Value.slice D3 L2.length d3] 57) = w6 at hz6 hx6 hS6 ⊢
                   clear hw6
                   go_wp2
                   go_meet
                   case rel => exact ⟨_, a2, own2, F2, t2, B2, q2, wh2, now2, L2, D0, D1, D3, d0, d1, d3, b, rfl, rfl, rfl, hq2, hg2, hS6, hx6, hz6, hne6⟩)
          case rest =>
            clear xx0 xx1 xx2 xx3 yy0 yy1 yy2 yy3 yy4 yy5 x0 x1 x2 x3 y0 y1 y2 y3 y4 y5
            obtain ⟨gy, a2, own2, F2, t2, B2, q2, wh2, now2, L2, D0, D1, D3, d0, d1, d3, b, rfl, rfl, rfl, hq2, hg2, hS2, hx2, hy2, hne⟩ := hcut
            clear hst hfree hnz hlt
            go_upto_if 129 with (fail)
            go_cut [15] (fun v15 wd => v15 = .int .i64 q2 ∧ wd = wc)
            case first =>
              have hq3 := hq2.out
              cases b
              all_goals
                simp only [if_true, Bool.false_eq_true, if_false] at hq3
                subst hq3
                go_wp2
                go_meet
                case rel => exact ⟨rfl, rfl⟩
            case rest =>
            obtain ⟨rfl, rfl⟩ := hcut
            clear hq2
            have ws := Aside0.mk (w64s i (by have := hi6.out; omega))
            have g0 : wc.cell? ⟨a.g, 0, none⟩ = some (.pointer (some ⟨a2.f, 0, none⟩)) := by rw [← hg2.out.1]; exact (blk_cell hS2.out.rs.blk 0).trans rfl
            have z0 : wc.cell? ⟨gy, 0, none⟩ = some (.slice D0 own2.length d0) := (blk_cell hy2.out 0).trans rfl
            have z1 : wc.cell? ⟨gy, 1, none⟩ = some (.slice D1 wh2.length d1) := (blk_cell hy2.out 1).trans rfl
            have z2 : wc.cell? ⟨gy, 2, none⟩ = some (.int .i64 now2) := (blk_cell hy2.out 2).trans rfl
            have hpc := Aside0.mk (And.intro g0 (And.intro z0 (And.intro z1 z2)))
            have hol : own2.length = m := hS2.out.own_len.1
            have hom : own2.length < 1000000 := by have := hmm.out.2; omega
            obtain ⟨N, hN⟩ : ∃ N, N = (idx own2 0 own2.length).length := ⟨_, rfl⟩
            have hrd := hS2.out.xf
            have hR0 := Kd.R_reads' hrd.r0
            have hR1 := Kd.R_reads' hrd.r1
            have hTq := fun (w' : World) (hb : Below wc.heap.size wc w') => touches_q w0.heap.size a2 _ w' (hS2.out.rs.below hb)
            rw [hg2.out.1] at hTq
            have hCn := fun (w' : World) (hb : Below wc.heap.size wc w') (A : Option Addr) (hC : Kd.C (Kd.int .i64) w' A ([0] : List Int).length [0]) => count_calls w0.heap.size a2.f own2 F2 t2 a2.o a2.c0 a2.A1 a2.c1 A 1 [0] w' (hS2.out.rs.below hb).fs hom hC (Nat.le_refl _) (by decide)
            have hcnt : cnt own2 [0] own2.length = N := by rw [cnt_idx own2 0 own2.length (Nat.le_refl _), hN]
            rw [hcnt] at hCn
            have hOf : ∀ (w' : World) (hb : Below wc.heap.size wc w'), Calls Try.prog 22 #[.agg #[.slice D0 own2.length d0, .slice D1 wh2.length d1, .int .i64 now2], .int .i64 0] w' fun e w'' => ∃ A c, e = .returned (.slice A N c) ∧ Below w'.heap.size w' w'' := fun w' hb => (gunnyref05_Of.calls (own2.length + 1) D0 d0 own2 D1 d1 wh2 now2 0 (idx own2 0 own2.length) w' (Kd.C_below hR0.2.2 hb) hR0.2.1 (Kd.C_below hR1.2.2 hb) hR1.2.1 (rOf _ own2 wh2 now2 0 hom (by omega))).mono (by
              rintro e w'' ⟨v, rfl, hr, hb'⟩
              obtain ⟨A, c, rfl⟩ := Kd.R_slice hr
              exact ⟨A, c, by rw [hN], hb'⟩)
            replace hTq := Aside0.mk hTq
            replace hCn := Aside0.mk hCn
            replace hOf := Aside0.mk hOf
            clear hol hom hN hrd hR0 hR1 hcnt
            go_upto_region 20 with (fail)
            go_cut [152] (fun v152 wd => v152 = .bool false ∧ Aside0 (Below wc.heap.size wc wd))
            case first =>
              go_region_held3 (fun w' => w'.cell? ⟨a.g, 0, none⟩ = some (.pointer (some ⟨a2.f, 0, none⟩)) ∧ w'.cell? ⟨gy, 0, none⟩ = some (.slice D0 own2.length d0) ∧ w'.cell? ⟨gy, 1, none⟩ = some (.slice D1 wh2.length d1) ∧ w'.cell? ⟨gy, 2, none⟩ = some (.int .i64 now2))
                (first | go_keep | (go_split_ands; refine ⟨?_, ?_, ?_, ?_⟩; (exact p0); (exact p1); (exact p2); (exact p3)))
                (first
                  | (go_at_call 19; refine (hTq.out _ (by repeat (first | exact hb22.out | exact hb17.out | exact Below.refl _ _ | refine pw_below_drewN ?_ _ | refine below_drew ?_ | refine below_alloc ?_ _))).mono ?_; rintro e w6 ⟨rfl, rfl⟩)
                  | (go_at_call 17; refine (hCn.out _ (by repeat (first | exact hb22.out | exact hb17.out | exact Below.refl _ _ | refine pw_below_drewN ?_ _ | refine below_drew ?_ | refine below_alloc ?_ _)) _ (C_one (by first | exact c0 | exact (blk_cell (blk_new w8 (.cells #[.int .i64 0] 3 (0, 0))) 0).trans rfl | exact (blk_cell (blk_new wc (.cells #[.int .i64 0] 3 (0, 0))) 0).trans rfl))).mono ?_; rintro e w7 ⟨rfl, hb7⟩; have hb17 := Aside0.mk (below_step (show Below wc.heap.size wc _ from (by repeat (first | exact hb22.out | exact hb17.out | exact Below.refl _ _ | refine pw_below_drewN ?_ _ | refine below_drew ?_ | refine below_alloc ?_ _))) hb7); have p0 : w7.cell? ⟨a.g, 0, none⟩ = some (.pointer (some ⟨a2.f, 0, none⟩)) := cell_far (Far.of_below (S := fun _ => False) hb17.out) (fun h => h) hpc.out.1; have p1 : w7.cell? ⟨gy, 0, none⟩ = some (.slice D0 own2.length d0) := cell_far (Far.of_below (S := fun _ => False) hb17.out) (fun h => h) hpc.out.2.1; have p2 : w7.cell? ⟨gy, 1, none⟩ = some (.slice D1 wh2.length d1) := cell_far (Far.of_below (S := fun _ => False) hb17.out) (fun h => h) hpc.out.2.2.1; have p3 : w7.cell? ⟨gy, 2, none⟩ = some (.int .i64 now2) := cell_far (Far.of_below (S := fun _ => False) hb17.out) (fun h => h) hpc.out.2.2.2; clear hb7)
                  | (go_at_call 22; refine (hOf.out _ (by repeat (first | exact hb22.out | exact hb17.out | exact Below.refl _ _ | refine pw_below_drewN ?_ _ | refine below_drew ?_ | refine below_alloc ?_ _))).mono ?_; rintro e w8 ⟨A8, c8, rfl, hb8⟩; have hb22 := Aside0.mk (below_step (show Below wc.heap.size wc _ from (by repeat (first | exact hb22.out | exact hb17.out | exact Below.refl _ _ | refine pw_below_drewN ?_ _ | refine below_drew ?_ | refine below_alloc ?_ _))) hb8); have p0 : w8.cell? ⟨a.g, 0, none⟩ = some (.pointer (some ⟨a2.f, 0, none⟩)) := cell_far (Far.of_below (S := fun _ => False) hb22.out) (fun h => h) hpc.out.1; have p1 : w8.cell? ⟨gy, 0, none⟩ = some (.slice D0 own2.length d0) := cell_far (Far.of_below (S := fun _ => False) hb22.out) (fun h => h) hpc.out.2.1; have p2 : w8.cell? ⟨gy, 1, none⟩ = some (.slice D1 wh2.length d1) := cell_far (Far.of_below (S := fun _ => False) hb22.out) (fun h => h) hpc.out.2.2.1; have p3 : w8.cell? ⟨gy, 2, none⟩ = some (.int .i64 now2) := cell_far (Far.of_below (S := fun _ => False) hb22.out) (fun h => h) hpc.out.2.2.2; have c0 : w8.cell? ⟨wc.heap.size, 0, none⟩ = some (.int .i64 0) := cell_far (Far.of_below (S := fun _ => False) hb8) (fun h => h) ((blk_cell (blk_new wc (.cells #[.int .i64 0] 3 (0, 0))) 0).trans rfl); clear hb8)
                  | (go_at_call 22; refine (hOf.out _ (by repeat (first | exact hb22.out | exact hb17.out | exact Below.refl _ _ | refine pw_below_drewN ?_ _ | refine below_drew ?_ | refine below_alloc ?_ _))).mono ?_; rintro e w8 ⟨A8, c8, rfl, hb8⟩; have hb22 := Aside0.mk (below_step (show Below wc.heap.size wc _ from (by repeat (first | exact hb22.out | exact hb17.out | exact Below.refl _ _ | refine pw_below_drewN ?_ _ | refine below_drew ?_ | refine below_alloc ?_ _))) hb8); have p0 : w8.cell? ⟨a.g, 0, none⟩ = some (.pointer (some ⟨a2.f, 0, none⟩)) := cell_far (Far.of_below (S := fun _ => False) hb22.out) (fun h => h) hpc.out.1; have p1 : w8.cell? ⟨gy, 0, none⟩ = some (.slice D0 own2.length d0) := cell_far (Far.of_below (S := fun _ => False) hb22.out) (fun h => h) hpc.out.2.1; have p2 : w8.cell? ⟨gy, 1, none⟩ = some (.slice D1 wh2.length d1) := cell_far (Far.of_below (S := fun _ => False) hb22.out) (fun h => h) hpc.out.2.2.1; have p3 : w8.cell? ⟨gy, 2, none⟩ = some (.int .i64 now2) := cell_far (Far.of_below (S := fun _ => False) hb22.out) (fun h => h) hpc.out.2.2.2; clear hb8))
              all_goals
                go_wp2
                go_meet
                case rel => exact ⟨rfl, ⟨(by repeat (first | exact hb22.out | exact hb17.out | exact Below.refl _ _ | refine pw_below_drewN ?_ _ | refine below_drew ?_ | refine below_alloc ?_ _))⟩⟩
            case rest =>
            obtain ⟨rfl, hb20⟩ := hcut
            clear g0 z0 z1 z2 hTq hCn hOf hpc
            have hx9 := Aside0.mk (blk_below hx2.out hb20.out)
            have hy9 := Aside0.mk (blk_below hy2.out hb20.out)
            have hS9 := Aside0.mk (hS2.out.below hb20.out)
            have x0 : wc.cell? ⟨gx, 0, none⟩ = some (.slice A0 own.length c0) := (blk_cell hx9.out 0).trans rfl
            have x1 : wc.cell? ⟨gx, 1, none⟩ = some (.slice A1 wh.length c1) := (blk_cell hx9.out 1).trans rfl
            have x2 : wc.cell? ⟨gx, 2, none⟩ = some (.int .i64 now) := (blk_cell hx9.out 2).trans rfl
            have x3 : wc.cell? ⟨gx, 3, none⟩ = some (.slice A3 L.length c3) := (blk_cell hx9.out 3).trans rfl
            have xf := fun j => blk_frozen hx9.out j
            have y0 : wc.cell? ⟨gy, 0, none⟩ = some (.slice D0 own2.length d0) := (blk_cell hy9.out 0).trans rfl
            have y1 : wc.cell? ⟨gy, 1, none⟩ = some (.slice D1 wh2.length d1) := (blk_cell hy9.out 1).trans rfl
            have y2 : wc.cell? ⟨gy, 2, none⟩ = some (.int .i64 now2) := (blk_cell hy9.out 2).trans rfl
            have y3 : wc.cell? ⟨gy, 3, none⟩ = some (.slice D3 L2.length d3) := (blk_cell hy9.out 3).trans rfl
            go_upto_region 16 with (fail)
            clear x0 x1 x2 x3 xf y0 y1 y2 y3
            obtain ⟨HX4, HW4⟩ := st4_blk hx9.out (.slice D0 own2.length d0) (.slice D1 wh2.length d1) (.int .i64 now2) (.slice D3 L2.length d3)
            have hS10 := Aside0.mk (hS9.out.box hx9.out HW4 hgt.out)
            unfold st4 at HX4 HW4 hS10
            generalize ((((wc.setCell ⟨gx, 0, none⟩ (.slice D0 own2.length d0)).setCell ⟨gx, 1, none⟩ (.slice D1 wh2.length d1)).setCell ⟨gx, 2, none⟩ (.int .i64 now2)).setCell ⟨gx, 3, none⟩ (.slice D3 L2.length d3)) = w6 at HX4 HW4 hS10 ⊢
            clear HW4
            replace HX4 := Aside0.mk HX4
            go_wp2
            go_roundg k
            case measure => omega
            case rel => exact ⟨i + 1, a2, own2, F2, t2, B2, q2, wh2, now2, L2, D0, D1, D3, d0, d1, d3, rfl, by rw [ws.out], ⟨by have := HK.out; omega⟩, hg2, hS10, HX4⟩

end Go.Proofs.Ytoejchlelamhjaa.Hand
