/- FramesApart, walked. -/
import Derived.Test.YtapcpfpggjdikaaF4
import Derived.Test.YtapcpfpggjdikaaCopyAt
import Derived.Deep.RegionHeld3
import Derived.Deep.QuietTactic
import Derived.BigQuiet
import Derived.Deep.DeepCutAuto
namespace Go.Proofs.Ytapcpfpggjdikaa.Hand
set_option linter.unusedVariables false
set_option linter.unusedSimpArgs false
open Go.RowKit Go.Proofs.Ytapcpfpggjdikaa.R Go.Proofs.YtapcpfpggjdikaaW.PrintWords Go.Proofs.YtapcpfpggjdikaaW.PrintLast Go.Proofs.YtapcpfpggjdikaaW.PrintMore

def ints (L : List Int) : Array Value := (L.map (Value.int .i64)).toArray
theorem ints_cell {w : World} {g : Nat} {L : List Int} {T : TypeId} (hb : w.heap[g]? = some (.cells (ints L) T (0, 0))) (o : Nat) (ho : o < L.length) : w.cell? ⟨g, o, none⟩ = some (.int .i64 L[o]) := by
  rw [blk_cell hb]
  unfold ints
  simp [ho]
theorem ints_set {w : World} {g : Nat} {L : List Int} {T : TypeId} (hb : w.heap[g]? = some (.cells (ints L) T (0, 0))) (o : Nat) (q : Int) : (w.setCell ⟨g, o, none⟩ (.int .i64 q)).heap[g]? = some (.cells (ints (L.set o q)) T (0, 0)) := by
  refine blk_put hb o (.int .i64 q) ?_
  unfold ints
  simp

/-- What is kept: the free frames are those that are nobody's. -/
structure Inv (own F : List Int) (f : Nat) : Prop where
  ok : OK own F 12 f
  zero : ∀ x ∈ F, ownerOf own x = 0
  nodup : F.Nodup
  all : ∀ i : Nat, i < 12 → ownerOf own (i : Int) = 0 → (i : Int) ∈ F
  few : ∀ y ∈ own, 0 ≤ y ∧ y ≤ 3

theorem ownerOf_nat (own : List Int) (x : Nat) (h : x < own.length) : ownerOf own (x : Int) = own[x] := by
  unfold ownerOf
  rw [if_pos (by omega)]
  simp [h]
theorem ownerOf_set (own : List Int) (x : Nat) (v y : Int) (h : x < own.length) : ownerOf (own.set x v) y = if y = (x : Int) then v else ownerOf own y := by
  by_cases hy : 0 ≤ y ∧ y < own.length
  · obtain ⟨n, rfl⟩ : ∃ n : Nat, y = (n : Int) := ⟨y.toNat, by omega⟩
    have hn : n < own.length := by omega
    rw [ownerOf_nat _ n (by simpa using hn), ownerOf_nat _ n hn, List.getElem_set]
    by_cases e : x = n
    · rw [if_pos e, if_pos (by omega)]
    · rw [if_neg e, if_neg (by omega)]
  · have e1 : ownerOf own y = 0 := by unfold ownerOf; rw [if_neg hy]
    have e2 : ownerOf (own.set x v) y = 0 := by unfold ownerOf; rw [if_neg (by simpa using hy)]
    rw [e1, e2, if_neg (by omega)]
theorem set_same (own : List Int) (x : Nat) (h : x < own.length) (hz : own[x] = 0) : own.set x 0 = own := by
  rw [← hz]
  simp
theorem Inv.more {own F : List Int} {f : Nat} (h : Inv own F f) (hf : f + 1 < 1000000) : Inv own F (f + 1) := ⟨h.ok.more hf, h.zero, h.nodup, h.all, h.few⟩
theorem Inv.give {own F : List Int} {f : Nat} (h : Inv own F f) (hf : f + 1 < 1000000) (x : Nat) (hx : x < 12) (hn : ownerOf own (x : Int) ≠ 0) : Inv (own.set x 0) (F ++ [(x : Int)]) (f + 1) := by
  have hl := h.ok.len
  have hnot : (x : Int) ∉ F := fun hm => hn (h.zero _ hm)
  have ho := h.ok.gv hf 0 (x : Int)
  unfold Hand.gv at ho
  rw [if_pos hn, Int.toNat_natCast] at ho
  refine ⟨ho, fun y hy => ?_, ?_, fun i hi hz => ?_, fun y hy => ?_⟩
  · rw [ownerOf_set own x 0 y (by omega)]
    split
    · rfl
    · rename_i hne
      rcases List.mem_append.1 hy with hy | hy
      · exact h.zero y hy
      · exact absurd (List.mem_singleton.1 hy) hne
  · rw [List.nodup_append]
    refine ⟨h.nodup, by simp, fun a ha b hb => ?_⟩
    rw [List.mem_singleton.1 hb]
    rintro rfl
    exact hnot ha
  · rw [ownerOf_set own x 0 _ (by omega)] at hz
    by_cases e : (i : Int) = (x : Int)
    · rw [e]; simp
    · rw [if_neg e] at hz
      exact List.mem_append.2 (.inl (h.all i hi hz))
  · rcases List.mem_or_eq_of_mem_set hy with hy | hy
    · exact h.few y hy
    · omega
theorem Inv.take {own G : List Int} {f : Nat} (x : Nat) (h : Inv own (G ++ [(x : Int)]) f) (owner : Int) (h1 : 1 ≤ owner) (h3 : owner ≤ 3) : Inv (own.set x owner) G f := by
  have hl := h.ok.len
  have hx := h.ok.are (x : Int) (by simp)
  have hnd := h.nodup
  rw [List.nodup_append] at hnd
  refine ⟨⟨by simpa using hl, h.ok.lim, by have := h.ok.most; simp at this; omega, h.ok.few, fun y hy => h.ok.are y (by simp [hy])⟩, fun y hy => ?_, hnd.1, fun i hi hz => ?_, fun y hy => ?_⟩
  · rw [ownerOf_set own x owner y (by omega), if_neg (fun e => hnd.2.2 y hy (x : Int) (by simp) e)]
    exact h.zero y (by simp [hy])
  · rw [ownerOf_set own x owner _ (by omega)] at hz
    by_cases e : (i : Int) = (x : Int)
    · rw [if_pos e] at hz; omega
    · rw [if_neg e] at hz
      have := h.all i hi hz
      rcases List.mem_append.1 this with h' | h'
      · exact h'
      · exact absurd (List.mem_singleton.1 h') e
  · rcases List.mem_or_eq_of_mem_set hy with hy | hy
    · exact h.few y hy
    · omega

theorem give_in (base g : Nat) (own F : List Int) (t : Int) (o c0 : Nat) (A1 : Option Addr) (c1 f : Nat) (h : Inv own F f) (hf : f + 1 < 1000000) (x : Nat) (hx : x < own.length) :
    ∃ F' t', Inv (own.set x 0) F' (f + 1) ∧ ∀ W, FS W base g own F t o c0 A1 c1 → Calls Try.prog 8 #[.pointer (some ⟨g, 0, none⟩), .int .i64 (x : Int)] W fun e w' => ∃ A4 c4, e = .returned (.bool (!(own[x] == 0))) ∧ FS w' base g (own.set x 0) F' t' o c0 A4 c4 ∧ Only base W w' := by
  have hl := h.ok.len
  by_cases hz : own[x] = 0
  · refine ⟨F, t, by rw [set_same own x hx hz]; exact h.more hf, fun W hW => ?_⟩
    rw [set_same own x hx hz, hz]
    exact (give_no base g own F t o c0 A1 c1 (x : Int) W hW (by rw [ownerOf_nat own x hx, hz])).mono fun e w' ⟨a, b⟩ => ⟨A1, c1, a, hW.below b, Only.of_below b hW.gt⟩
  · refine ⟨F ++ [(x : Int)], wrap64 (t + 1), h.give hf x (by omega) (by rw [ownerOf_nat own x hx]; exact hz), fun W hW => ?_⟩
    have hF := h.ok.most
    refine (give_yes base g own F x t o c0 A1 c1 W hW hx (by simpa [hx] using hz) (by have := h.ok.few; omega) (by omega)).mono fun e w' ⟨A4, c4, a, b⟩ => ⟨A4, c4, ?_, b⟩
    rw [a, beq_eq_false_iff_ne.mpr hz]
    rfl
set_option maxHeartbeats 8000000 in
set_option maxRecDepth 100000 in
theorem give_out (base g : Nat) (own F : List Int) (t : Int) (o c0 : Nat) (A1 : Option Addr) (c1 : Nat) (a : Int) (hno : ownerOf own a = 0) (w : World) (h : FS w base g own F t o c0 A1 c1) :
    Calls Try.prog 8 #[.pointer (some ⟨g, 0, none⟩), .int .i64 a] w fun e w' => e = .returned (.bool false) ∧ w' = w := by
  replace h := Aside0.mk h
  replace hno := Aside0.mk hno
  go_enter Try.func8, Try.ntmps8
  go_wp2_with (go_at_call 11; refine (owner_q base g own F t o c0 A1 c1 a _ h.out).mono ?_; rintro e w2 ⟨rfl, rfl⟩; rw [hno.out])
  go_returns
  exact ⟨rfl, rfl⟩
theorem cnt_zero {own : List Int} {f : Nat} (h : Inv own [] f) : cnt own [0] 12 = 0 := by
  have hl := h.ok.len
  have : ∀ i, i ≤ 12 → cnt own [0] i = 0 := by
    intro i
    induction i with
    | zero => intro _; rfl
    | succ i ih =>
      intro hi
      have hi2 : i < own.length := by omega
      rw [cnt_succ own [0] i hi2, ih (by omega)]
      have hz : own[i] ≠ 0 := fun e => by
        have := h.all i (by omega) (by rw [ownerOf_nat own i hi2, e])
        cases this
      have : ([0] : List Int).contains own[i] = false := by simp [hz]
      rw [this]
      rfl
  exact this 12 (by omega)
theorem cnt_all {own F : List Int} {f : Nat} (h : Inv own F f) : cnt own [0, 1, 2, 3] 12 = 12 := by
  have hl := h.ok.len
  have : ∀ i, i ≤ 12 → cnt own [0, 1, 2, 3] i = i := by
    intro i
    induction i with
    | zero => intro _; rfl
    | succ i ih =>
      intro hi
      have hi2 : i < own.length := by omega
      rw [cnt_succ own _ i hi2, ih (by omega)]
      have hb := h.few own[i] (List.getElem_mem hi2)
      have : ([0, 1, 2, 3] : List Int).contains own[i] = true := by
        have : own[i] = 0 ∨ own[i] = 1 ∨ own[i] = 2 ∨ own[i] = 3 := by omega
        rcases this with e | e | e | e <;> rw [e] <;> decide
      rw [this]
      rfl
  exact this 12 (by omega)
theorem Inv.new : Inv (List.replicate 12 0) (dn 12 0) (12 + 0) := by
  refine ⟨OK.new 12 (by omega), by decide +kernel, by decide +kernel, ?_, by decide +kernel⟩
  intro i hi _
  have : ∀ i < 12, ((i : Nat) : Int) ∈ dn 12 0 := by decide +kernel
  exact this i hi

set_option maxHeartbeats 8000000 in
set_option maxRecDepth 100000 in
theorem apart_law (A : Option Addr) (c : Nat) (l : List (Int × Int)) (w : World) (hC : Kd.C kD w A l.length l) (hc : l.length ≤ c) :
    Calls Try.prog 3 #[.slice A l.length c] w fun e w' => e = .returned (.bool true) ∧ Below w.heap.size w w' := by
  replace hC := Aside0.mk hC
  replace hc := Aside0.mk hc
  by_cases h2 : l.length > 200
  · have d1 : decide ((l.length : Int) > 200) = true := decide_eq_true (by omega)
    have d2 : decide (200 < (l.length : Int)) = true := decide_eq_true (by omega)
    have d3 : decide (200 < l.length) = true := decide_eq_true (by omega)
    go_enter Try.func3, Try.ntmps3
    go_wp2_with (go_at_call 6; refine (lives_calls _).mono ?_; rintro e w7 ⟨rfl, b7⟩; replace b7 := Aside0.mk b7)
    go_returns
    exact ⟨rfl, b7.out⟩
  have d1 : decide ((l.length : Int) > 200) = false := decide_eq_false (by omega)
  have d2 : decide (200 < (l.length : Int)) = false := decide_eq_false (by omega)
  have d3 : decide (200 < l.length) = false := decide_eq_false (by omega)
  replace h2 := Aside0.mk h2
  go_enter Try.func3, Try.ntmps3
  go_wp2_with (first | (go_at_call 7; refine (new_calls 12 (by omega) (by omega) _).mono ?_; rintro e w1 ⟨g, o, c0, A1, c1, rfl, hs, hb⟩; replace hs := Aside0.mk hs; replace hb := Aside0.mk hb))
  have hge : w.heap.size ≤ w1.heap.size := hb.out.size
  replace hge := Aside0.mk hge
  go_loopg [6] l.length (fun kq v6 w' => ∃ (i : Nat) (own F : List Int) (t : Int) (A1 : Option Addr) (c1 : Nat), v6 = .int .i64 (i : Int) ∧ Aside0 (i + kq = l.length) ∧ Aside0 (FS w' w.heap.size g own F t o c0 A1 c1) ∧ Aside0 (Inv own F (12 + i)) ∧ Aside0 (w'.heap[w1.heap.size]? = some (.cells (ints own) 28 (0, 0))) ∧ Aside0 (Below w.heap.size w w'))
  case atStart => exact ⟨0, _, _, _, _, _, rfl, ⟨by omega⟩, ⟨hs.out.alloc _⟩, ⟨Inv.new⟩, ⟨blk_new w1 _⟩, ⟨below_alloc hb.out _⟩⟩
  case round =>
    obtain ⟨i, own, F, t, A3, c3, rfl, HK, HS, HI, HW, HB⟩ := hrel
    clear hs hb
    cases gk with
    | zero =>
      obtain rfl : i = l.length := by have := HK.out; omega
      have e1 : decide (((l.length : Nat) : Int) < ((l.length : Nat) : Int)) = false := decide_eq_false (by omega)
      have h12 := HI.out.ok.len
      have hC10 : Calls Try.prog 10 #[.pointer (some ⟨g, 0, none⟩), .slice (some ⟨wr.heap.size, 0, none⟩) 4 4] (wr.alloc (.cells #[.int .i64 0, .int .i64 1, .int .i64 2, .int .i64 3] 3 (0, 0))) fun e w' => e = .returned (.int .i64 12) ∧ Below wr.heap.size wr w' := by
        have hcc := count_calls w.heap.size g own F t o c0 A3 c3 (some ⟨wr.heap.size, 0, none⟩) 4 [0, 1, 2, 3] _ (HS.out.alloc (.cells #[.int .i64 0, .int .i64 1, .int .i64 2, .int .i64 3] 3 (0, 0))) (by omega) (CopyAt.lit_C wr .i64 [0, 1, 2, 3] #[.int .i64 0, .int .i64 1, .int .i64 2, .int .i64 3] 3 (0, 0) rfl (by simp)) (by decide) (by decide) (fun ad hA h0 => by
          injection hA with hA
          rw [← hA]
          have := blk_lt HS.out.blk
          show wr.heap.size ≠ g
          omega)
        rw [h12, cnt_all HI.out] at hcc
        exact hcc.mono fun e w' ⟨a, b⟩ => ⟨a, ((Only.refl wr.heap.size wr (Nat.le_refl _)).alloc _).then_ b |>.below⟩
      replace hC10 := Aside0.mk hC10
      clear h12
      go_wp2_with (first | (go_at_call 10; refine hC10.out.mono ?_; rintro e w5 ⟨rfl, b5⟩; replace b5 := Aside0.mk b5) | (go_at_call 6; refine (lives_calls _).mono ?_; rintro e w7 ⟨rfl, b7⟩; replace b7 := Aside0.mk b7))
      go_returns
      have B5 := (Only.of_below b5.out HS.out.gt)
      exact ⟨rfl, (HB.out.trans B5.below).trans (Only.of_below b7.out B5.ge2).below⟩
    | succ k =>
      have hi : i < l.length := by have := HK.out; omega
      have e1 : decide ((i : Int) < (l.length : Int)) = true := decide_eq_true (by omega)
      have e2 : decide (i < l.length) = true := decide_eq_true hi
      have e3 : decide (0 ≤ (i : Int)) = true := decide_eq_true (by omega)
      obtain ⟨ad, rfl, hcell⟩ := deed_at hC.out i hi
      obtain ⟨k0, k1⟩ := hcell wr HB.out
      have ws := Aside0.mk (w64s i (by have := h2.out; omega))
      have hi6 : 12 + i + 1 < 1000000 := by have := h2.out; omega
      replace hi6 := Aside0.mk hi6
      go_upto_region 11 with (fail)
      have HD := blk_new wr (.cells #[.int .i64 l[i].1, .int .i64 l[i].2] 30 (0, 0))
      have HS' := HS.out.alloc (.cells #[.int .i64 l[i].1, .int .i64 l[i].2] 30 (0, 0))
      have HW' := blk_alloc HW.out (.cells #[.int .i64 l[i].1, .int .i64 l[i].2] 30 (0, 0))
      have HB' := below_alloc HB.out (.cells #[.int .i64 l[i].1, .int .i64 l[i].2] 30 (0, 0))
      clear HS HW HB k0 k1
      obtain ⟨N, hN⟩ : ∃ N, N = l[i].1 := ⟨_, rfl⟩
      obtain ⟨O, hO⟩ : ∃ O, O = l[i].2 := ⟨_, rfl⟩
      rw [← hN, ← hO] at HD HS' HW' HB' ⊢
      clear hN hO hcell
      generalize wr.alloc (.cells #[.int .i64 N, .int .i64 O] 30 (0, 0)) = wd at HD HS' HW' HB' ⊢
      generalize wr.heap.size = gd at HD ⊢
      have hdh : gd ≠ w1.heap.size := blk_ne HD HW' (by decide)
      have cd0 : wd.cell? ⟨gd, 0, none⟩ = some (.int .i64 N) := (blk_cell HD 0).trans rfl
      have cd1 : wd.cell? ⟨gd, 1, none⟩ = some (.int .i64 O) := (blk_cell HD 1).trans rfl
      replace HD := Aside0.mk HD
      replace HS' := Aside0.mk HS'
      replace HW' := Aside0.mk HW'
      replace HB' := Aside0.mk HB'
      replace hdh := Aside0.mk hdh
      have h12 := HI.out.ok.len
      replace h12 := Aside0.mk h12
      go_upto_if 34 with (fail)
      go_cut [8, 9, 10] (fun v8 v9 v10 wx => ∃ (own' F' : List Int) (t' : Int) (A4 : Option Addr) (c4 : Nat), Aside0 (Inv own' F' (12 + i + 1)) ∧ Aside0 (FS wx w.heap.size g own' F' t' o c0 A4 c4) ∧ Aside0 (wx.heap[w1.heap.size]? = some (.cells (ints own') 28 (0, 0))) ∧ Aside0 (Below w.heap.size w wx))
      case first =>
        by_cases hn : N ≥ 0
        · obtain ⟨x, rfl⟩ : ∃ x : Nat, N = (x : Int) := ⟨N.toNat, by omega⟩
          have e4 : decide (0 ≤ (x : Int)) = true := decide_eq_true hn
          by_cases hx : x < 12
          · have e5 : decide ((x : Int) < 12) = true := decide_eq_true (by omega)
            have e6 : decide (x < 12) = true := decide_eq_true hx
            have hx2 : x < own.length := by have := h12.out; omega
            have em : Int.tmod (x : Int) 12 = (x : Int) := by rw [Int.tmod_eq_emod_of_nonneg (by omega)]; omega
            have cx := ints_cell HW'.out x hx2
            obtain ⟨F', t', hI', hcall⟩ := give_in w.heap.size g own F t o c0 A3 c3 (12 + i) HI.out (by have := hi6.out; omega) x hx2
            have hcx : ∀ W : World, W.heap[w1.heap.size]? = some (.cells (ints own) 28 (0, 0)) → W.cell? ⟨w1.heap.size, x, none⟩ = some (.int .i64 own[x]) := fun W hW => ints_cell hW x hx2
            obtain ⟨q, hq⟩ : ∃ q, q = own[x] := ⟨_, rfl⟩
            rw [← hq] at hcall cx hcx
            clear hq
            replace hI' := Aside0.mk hI'
            replace hcall := Aside0.mk hcall
            replace hcx := Aside0.mk hcx
            have hx0 : (0 : Int) ≤ (x : Int) := by omega
            have hx1 : (x : Int) < 12 := by omega
            cases hqb : (q == 0) with
            | true =>
              rw [hqb] at hcall
              have hqn : (q != 0) = false := by rw [bne, hqb]; rfl
              go_upto_region 12 with (fail)
              go_region_held3 (fun w' => w'.cell? ⟨gd, 0, none⟩ = some (.int .i64 (x : Int)) ∧ w'.cell? ⟨w1.heap.size, x, none⟩ = some (.int .i64 q))
                (first | go_keep | (go_split_ands; refine ⟨?_, ?_⟩; (exact ca); (exact cb)))
                (first | (go_at_call 8; refine (hcall.out _ ((HS'.out.drewN _))).mono ?_; rintro e w3 ⟨A4, c4, rfl, hs3, hO3⟩; have hd3 := Aside0.mk (hO3.typ _ _ _ (by decide) (by decide) (blk_drewN HD.out _)); have hw3 := Aside0.mk (hO3.typ _ _ _ (by decide) (by decide) (blk_drewN HW'.out _)); have ca : w3.cell? ⟨gd, 0, none⟩ = some (.int .i64 (x : Int)) := (blk_cell hd3.out 0).trans rfl; have cb := hcx.out _ hw3.out; have hb3 := Aside0.mk ((pw_below_drewN HB'.out _).trans hO3.below); clear hO3; replace hs3 := Aside0.mk hs3))
              have fz := blk_frozen hw3.out x
              go_wp2
              go_meet
              case rel => exact ⟨_, _, _, _, _, hI', ⟨hs3.out.far hw3.out (by decide) (by decide) x (.int .i64 0)⟩, ⟨ints_set hw3.out x 0⟩, ⟨below_set hb3.out hge.out⟩⟩
            | false =>
              rw [hqb] at hcall
              have hqn : (q != 0) = true := by rw [bne, hqb]; rfl
              go_upto_region 12 with (fail)
              go_region_held3 (fun w' => w'.cell? ⟨gd, 0, none⟩ = some (.int .i64 (x : Int)) ∧ w'.cell? ⟨w1.heap.size, x, none⟩ = some (.int .i64 q))
                (first | go_keep | (go_split_ands; refine ⟨?_, ?_⟩; (exact ca); (exact cb)))
                (first | (go_at_call 8; refine (hcall.out _ ((HS'.out.drewN _))).mono ?_; rintro e w3 ⟨A4, c4, rfl, hs3, hO3⟩; have hd3 := Aside0.mk (hO3.typ _ _ _ (by decide) (by decide) (blk_drewN HD.out _)); have hw3 := Aside0.mk (hO3.typ _ _ _ (by decide) (by decide) (blk_drewN HW'.out _)); have ca : w3.cell? ⟨gd, 0, none⟩ = some (.int .i64 (x : Int)) := (blk_cell hd3.out 0).trans rfl; have cb := hcx.out _ hw3.out; have hb3 := Aside0.mk ((pw_below_drewN HB'.out _).trans hO3.below); clear hO3; replace hs3 := Aside0.mk hs3))
              have fz := blk_frozen hw3.out x
              go_wp2
              go_meet
              case rel => exact ⟨_, _, _, _, _, hI', ⟨hs3.out.far hw3.out (by decide) (by decide) x (.int .i64 0)⟩, ⟨ints_set hw3.out x 0⟩, ⟨below_set hb3.out hge.out⟩⟩
          · have e5 : decide ((x : Int) < 12) = false := decide_eq_false (by omega)
            have hx1 : ¬ (x : Int) < 12 := by omega
            have hx2 : (12 : Int) ≤ (x : Int) := by omega
            have e6 : decide (x < 12) = false := decide_eq_false hx
            have hq8 := fun m => give_out w.heap.size g own F t o c0 A3 c3 (x : Int) (by unfold ownerOf; rw [if_neg (by have := h12.out; omega)]) _ (HS'.out.drewN m)
            replace hq8 := Aside0.mk hq8
            go_upto_region 12 with (fail)
            go_quiet ((go_at_call 8; exact Calls.quiet_of_same (hq8.out _)))
            have hd3 := blk_drewN HD.out nq
            go_wp2
            go_meet
            case rel => exact ⟨_, _, _, _, _, ⟨HI.out.more hi6.out⟩, ⟨HS'.out.drewN _⟩, ⟨blk_drewN HW'.out _⟩, ⟨pw_below_drewN HB'.out _⟩⟩
        · have e4 : decide (0 ≤ N) = false := decide_eq_false hn
          have hl3 : ∀ W : World, Kd.C (Kd.int .i64) (W.alloc (.cells #[.int .i64 0] 3 (0, 0))) (some ⟨W.heap.size, 0, none⟩) ([(0 : Int)] : List Int).length [(0 : Int)] := fun W => CopyAt.lit_C W .i64 [0] #[.int .i64 0] 3 (0, 0) rfl (by simp)
          replace hl3 := Aside0.mk hl3
          by_cases hF : F ≠ [] ∧ 1 ≤ O ∧ O ≤ 3
          · obtain ⟨G, y, rfl⟩ : ∃ G y, F = G ++ [y] := ⟨F.dropLast, F.getLast hF.1, (List.dropLast_concat_getLast hF.1).symm⟩
            have hy := HI.out.ok.are y (by simp)
            obtain ⟨x, rfl⟩ : ∃ x : Nat, y = (x : Int) := ⟨y.toNat, by omega⟩
            have hx2 : x < own.length := by have := h12.out; omega
            have hz0 := HI.out.zero (x : Int) (by simp)
            rw [ownerOf_nat own x hx2] at hz0
            have hGl : G.length < 1000000 := by have h1 := HI.out.ok.most; have h3 := HI.out.ok.few; simp at h1; omega
            have hI' := Aside0.mk ((HI.out.take x O hF.2.1 hF.2.2).more hi6.out)
            have hcall := Aside0.mk (fun W hW => take_yes w.heap.size g own G x t o c0 A3 c3 O W hW hx2 hGl (by have := h12.out; omega) hF.2.1 hF.2.2)
            obtain ⟨z, hz⟩ : ∃ z, z = cnt (own.set x O) [0] 12 := ⟨_, rfl⟩
            have hz12 : z ≤ 12 := by rw [hz]; exact cnt_le _ _ _
            have l12 : (own.set x O).length = 12 := by rw [List.length_set]; exact h12.out
            have hcnt := Aside0.mk (fun (A : Option Addr) (c : Nat) (A1 : Option Addr) (c1 : Nat) (W : World) (hW : FS W w.heap.size g (own.set x O) G (wrap64 (t + 1)) o c0 A1 c1) (hC : Kd.C (Kd.int .i64) W A ([(0 : Int)] : List Int).length [(0 : Int)]) (hc : ([(0 : Int)] : List Int).length ≤ c) hf => count_calls w.heap.size g (own.set x O) G (wrap64 (t + 1)) o c0 A1 c1 A c [0] W hW (by omega) hC hc (by decide) hf)
            rw [l12, ← hz] at hcnt
            replace hz0 := Aside0.mk hz0
            clear hz l12 hy
            go_upto_region 17 with (go_at_call 9; refine (hcall.out _ HS'.out).mono ?_; rintro e w3 ⟨rfl, hs3, hO3⟩; have hd3 := Aside0.mk (hO3.typ _ _ _ (by decide) (by decide) HD.out); have hw3 := Aside0.mk (hO3.typ _ _ _ (by decide) (by decide) HW'.out); have hb3 := Aside0.mk (HB'.out.trans hO3.below); clear hO3; replace hs3 := Aside0.mk hs3)
            have hC10 : Calls Try.prog 10 #[.pointer (some ⟨g, 0, none⟩), .slice (some ⟨w3.heap.size, 0, none⟩) 1 1] (w3.alloc (.cells #[.int .i64 0] 3 (0, 0))) fun e w' => e = .returned (.int .i64 (z : Int)) ∧ Below w3.heap.size w3 w' := by
              refine (hcnt.out (some ⟨w3.heap.size, 0, none⟩) 1 A3 c3 _ (hs3.out.alloc _) (hl3.out w3) (by decide) ?_).mono fun e w' ⟨a, b⟩ => ⟨a, ?_⟩
              · intro ad hA h0
                injection hA with hA
                rw [← hA]
                have := blk_lt hs3.out.blk
                show w3.heap.size ≠ g
                omega
              · exact ((Only.refl w3.heap.size w3 (Nat.le_refl _)).alloc _).then_ b |>.below
            replace hC10 := Aside0.mk hC10
            go_upto_region 18 with (go_at_call 10; refine hC10.out.mono ?_; rintro e w4 ⟨rfl, hb4⟩; replace hb4 := Aside0.mk hb4)
            have hs4 := Aside0.mk (hs3.out.below hb4.out)
            have hd4 := Aside0.mk (blk_below hd3.out hb4.out)
            have hw4 := Aside0.mk (blk_below hw3.out hb4.out)
            have hbb4 := Aside0.mk (hb3.out.trans (Only.of_below hb4.out hs3.out.gt).below)
            clear hs3 hd3 hw3 hb3 hb4 hC10 cd0 cd1
            have cd1 : w4.cell? ⟨gd, 1, none⟩ = some (.int .i64 O) := (blk_cell hd4.out 1).trans rfl
            have cx := ints_cell hw4.out x hx2
            rw [hz0.out] at cx
            have fz := blk_frozen hw4.out x
            have x0 : (0 : Int) ≤ (x : Int) := by omega
            have x1 : (x : Int) < 12 := by have := h12.out; omega
            have x2 : x < 12 := by omega
            have x3 : decide ((x : Int) < 0) = false := decide_eq_false (by omega)
            have x4 : decide ((x : Int) > 11) = false := decide_eq_false (by omega)
            have x5 : decide (11 < (x : Int)) = false := decide_eq_false (by omega)
            have x6 : decide (11 < x) = false := decide_eq_false (by omega)
            have z1 : decide (0 < (z : Int) + 1) = true := decide_eq_true (by omega)
            have z2 : decide ((z : Int) + 1 > 0) = true := decide_eq_true (by omega)
            have o1 : decide (O ≥ 1) = true := decide_eq_true hF.2.1
            have o2 : decide (1 ≤ O) = true := decide_eq_true hF.2.1
            have o3 : decide (O ≤ 3) = true := decide_eq_true hF.2.2
            go_upto_region 20 with (fail)
            go_wp2
            go_meet
            case rel => exact ⟨_, _, _, _, _, hI', ⟨hs4.out.far hw4.out (by decide) (by decide) x (.int .i64 O)⟩, ⟨ints_set hw4.out x O⟩, ⟨below_set hbb4.out hge.out⟩⟩
          · have hno : F = [] ∨ O ≤ 0 ∨ O > 3 := by
              by_cases h1 : F = []
              · exact .inl h1
              · by_cases h3 : O ≤ 0
                · exact .inr (.inl h3)
                · exact .inr (.inr (by by_cases h4 : O ≤ 3; exact absurd ⟨h1, by omega, h4⟩ hF; omega))
            have hcall := Aside0.mk (take_no w.heap.size g own F t o c0 A3 c3 O wd HS'.out hno)
            obtain ⟨z, hz⟩ : ∃ z, z = cnt own [0] 12 := ⟨_, rfl⟩
            have hz12 : z ≤ 12 := by rw [hz]; exact cnt_le _ _ _
            have hFz : F = [] → z = 0 := fun h => by rw [hz]; exact cnt_zero (h ▸ HI.out)
            have hcnt := Aside0.mk (fun (A : Option Addr) (c : Nat) (A1 : Option Addr) (c1 : Nat) (W : World) (hW : FS W w.heap.size g own F t o c0 A1 c1) (hC : Kd.C (Kd.int .i64) W A ([(0 : Int)] : List Int).length [(0 : Int)]) (hc : ([(0 : Int)] : List Int).length ≤ c) hf => count_calls w.heap.size g own F t o c0 A1 c1 A c [0] W hW (by have := h12.out; omega) hC hc (by decide) hf)
            rw [h12.out, ← hz] at hcnt
            clear hz hF
            go_upto_region 17 with (go_at_call 9; refine hcall.out.mono ?_; rintro e w3 ⟨rfl, hb3⟩; replace hb3 := Aside0.mk hb3)
            have hs3 := Aside0.mk (HS'.out.below hb3.out)
            have hd3 := Aside0.mk (blk_below HD.out hb3.out)
            have hw3 := Aside0.mk (blk_below HW'.out hb3.out)
            have hbb3 := Aside0.mk (HB'.out.trans (Only.of_below hb3.out HS'.out.gt).below)
            have hC10 : Calls Try.prog 10 #[.pointer (some ⟨g, 0, none⟩), .slice (some ⟨w3.heap.size, 0, none⟩) 1 1] (w3.alloc (.cells #[.int .i64 0] 3 (0, 0))) fun e w' => e = .returned (.int .i64 (z : Int)) ∧ Below w3.heap.size w3 w' := by
              refine (hcnt.out (some ⟨w3.heap.size, 0, none⟩) 1 A3 c3 _ (hs3.out.alloc _) (hl3.out w3) (by decide) ?_).mono fun e w' ⟨a, b⟩ => ⟨a, ?_⟩
              · intro ad hA h0
                injection hA with hA
                rw [← hA]
                have := blk_lt hs3.out.blk
                show w3.heap.size ≠ g
                omega
              · exact ((Only.refl w3.heap.size w3 (Nat.le_refl _)).alloc _).then_ b |>.below
            replace hC10 := Aside0.mk hC10
            go_upto_region 18 with (go_at_call 10; refine hC10.out.mono ?_; rintro e w4 ⟨rfl, hb4⟩; replace hb4 := Aside0.mk hb4)
            have hs4 := Aside0.mk (hs3.out.below hb4.out)
            have hd4 := Aside0.mk (blk_below hd3.out hb4.out)
            have hw4 := Aside0.mk (blk_below hw3.out hb4.out)
            have hbb4 := Aside0.mk (hbb3.out.trans (Only.of_below hb4.out hs3.out.gt).below)
            clear hs3 hd3 hw3 hb3 hb4 hC10 cd0 cd1 hbb3
            have cd1 : w4.cell? ⟨gd, 1, none⟩ = some (.int .i64 O) := (blk_cell hd4.out 1).trans rfl
            by_cases hz0 : z = 0
            · have z1 : decide (0 < (z : Int)) = false := decide_eq_false (by omega)
              have z2 : decide ((z : Int) > 0) = false := decide_eq_false (by omega)
              have z3 : decide (0 < z) = false := decide_eq_false (by omega)
              clear hz0 hno hFz
              go_wp2
              go_meet
              case rel => exact ⟨_, _, _, _, _, ⟨HI.out.more hi6.out⟩, hs4, hw4, hbb4⟩
            · have z1 : decide (0 < (z : Int)) = true := decide_eq_true (by omega)
              have z2 : decide ((z : Int) > 0) = true := decide_eq_true (by omega)
              have z3 : decide (0 < z) = true := decide_eq_true (by omega)
              by_cases hO1 : 1 ≤ O
              · have hO3 : ¬ O ≤ 3 := by
                  rcases hno with h | h | h
                  · exact absurd (hFz h) hz0
                  · omega
                  · omega
                have o1 : decide (O ≥ 1) = true := decide_eq_true hO1
                have o2 : decide (1 ≤ O) = true := decide_eq_true hO1
                have o3 : decide (O ≤ 3) = false := decide_eq_false hO3
                clear hno hFz
                go_wp2
                go_meet
                case rel => exact ⟨_, _, _, _, _, ⟨HI.out.more hi6.out⟩, hs4, hw4, hbb4⟩
              · have o1 : decide (O ≥ 1) = false := decide_eq_false hO1
                have o2 : decide (1 ≤ O) = false := decide_eq_false hO1
                clear hno hFz
                go_wp2
                go_meet
                case rel => exact ⟨_, _, _, _, _, ⟨HI.out.more hi6.out⟩, hs4, hw4, hbb4⟩
      case rest =>
        obtain ⟨own', F', t', A4, c4, HI2, HS2, HW2, HB2⟩ := hcut
        have l12 := Aside0.mk HI2.out.ok.len
        clear HS' HW' HB' HD HI cd0 cd1 h12
        go_wp2
        go_loopg [11] 12 (fun kq v11 w' => ∃ (n : Nat), v11 = .int .i64 (n : Int) ∧ Aside0 (n + kq = 12) ∧ Aside0 (FS w' w.heap.size g own' F' t' o c0 A4 c4) ∧ Aside0 (w'.heap[w1.heap.size]? = some (.cells (ints own') 28 (0, 0))) ∧ Aside0 (Below w.heap.size w w'))
        case atStart => exact ⟨0, rfl, ⟨by omega⟩, HS2, HW2, HB2⟩
        case round =>
          obtain ⟨n, rfl, HK2, HS3, HW3, HB3⟩ := hrel
          clear HS2 HW2 HB2
          cases gk with
          | zero =>
            obtain rfl : n = 12 := by have := HK2.out; omega
            have e5 : decide (((12 : Nat) : Int) < 12) = false := by decide
            go_wp2
            go_roundg k
            case measure => omega
            case rel => exact ⟨i + 1, _, _, _, _, _, by rw [ws.out], ⟨by have := HK.out; omega⟩, HS3, HI2, HW3, HB3⟩
          | succ k2 =>
            have hn : n < own'.length := by have := HK2.out; have := l12.out; omega
            have hn2 : n < 12 := by have := HK2.out; omega
            have e5 : decide ((n : Int) < 12) = true := decide_eq_true (by omega)
            have n0 : (0 : Int) ≤ (n : Int) := by omega
            have n1 : (n : Int) < 12 := by omega
            have w9 := Aside0.mk (w64s n (by omega))
            have cn := ints_cell HW3.out n hn
            have hq11 := fun m => owner_q w.heap.size g own' F' t' o c0 A4 c4 (n : Int) _ (HS3.out.drewN m)
            rw [ownerOf_nat own' n hn] at hq11
            obtain ⟨q, hq⟩ : ∃ q, q = own'[n] := ⟨_, rfl⟩
            rw [← hq] at hq11 cn
            replace hq11 := Aside0.mk hq11
            clear hq
            have qq : (q != q) = false := by simp
            go_upto_region 27 with (fail)
            go_quiet ((go_at_call 11; exact Calls.quiet_of_same (hq11.out _)))
            go_wp2
            go_roundg k2
            case measure => omega
            case rel => exact ⟨n + 1, by first | rw [w9.out] | rfl | simp, ⟨by have := HK2.out; omega⟩, ⟨HS3.out.drewN _⟩, ⟨blk_drewN HW3.out _⟩, ⟨pw_below_drewN HB3.out _⟩⟩

theorem apart_walk (W : World) (A : Option Addr) (c : Nat) (l : List (Int × Int)) (hC : Kd.C kD W A l.length l) (hle : l.length ≤ c) (hm : l.length ≤ maxLen) (hR : ∀ x ∈ l, True) :
    Calls Try.prog 3 #[.slice A l.length c] W fun e w' => e = .returned (.bool true) ∧ Below W.heap.size W w' := apart_law A c l W hC hle

end Go.Proofs.Ytapcpfpggjdikaa.Hand
