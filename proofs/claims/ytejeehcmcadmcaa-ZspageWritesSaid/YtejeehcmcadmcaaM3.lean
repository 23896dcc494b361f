/- ram: SetWord, Take, walked by hand; the example. -/
import Derived.Test.YtejeehcmcadmcaaM2
namespace Go.Proofs.Ytejeehcmcadmcaa.Hand
set_option linter.unusedVariables false
set_option linter.unusedSimpArgs false
open Go.RowKit Go.Proofs.Ytejeehcmcadmcaa.R Go.Proofs.YtejeehcmcadmcaaW.PrintWords Go.Proofs.YtejeehcmcadmcaaW.PrintLast Go.Proofs.YtejeehcmcadmcaaW.PrintMore

theorem lit1 (w : World) (x : Int) : Kd.C (Kd.int .u64) (w.alloc (.cells #[.int .u64 x] 23 (0, 0))) (some ⟨w.heap.size, 0, none⟩) 1 [x] := CopyAt.lit_C w .u64 [x] #[.int .u64 x] 23 (0, 0) rfl (by simp)
/-! Take -/
theorem zc (n : Nat) : (Builtin.zeroCells (Value.int .u8 0).cells n).toList = encs (Value.int .u8) (List.replicate n 0) := by
  unfold Builtin.zeroCells encs
  simp [Value.cells]
  apply List.ext_getElem <;> simp
  intro i _
  simp [Nat.mod_one]
theorem zv5 (w : World) : (zeroValue 5).run Try.prog w = .ok (.int .u8 0) w := by kernel_rfl
theorem clear_over {w : World} {base : Nat} {a : RA} {s : RP} (h : RS w base a s) (p n c : Nat) (hn : 0 < n) (hp : p + n ≤ s.B.length) :
    ∃ w', (Builtin.clear_ #[36] 0 #[.slice (some ⟨a.b, p, none⟩) n c]).run Try.prog w = .ok (.tuple #[]) w' ∧ RS w' base a { s with B := over s.B p (List.replicate n 0) } ∧ Far (fun k => k = a.b) w w' := by
  have hp' : p + (List.replicate n (0 : Int)).length ≤ s.B.length := by rw [List.length_replicate]; exact hp
  obtain ⟨h1, h2, _, _⟩ := put_row .u8 base 5 a.b p a.cb s.B (List.replicate n 0) _ h.bs hp'
  have hst := run_storeCells_cells (P := Try.prog) a.b p (encs (Value.int .u8) (List.replicate n 0)) 0 w (by simpa using h1) (by simpa using h2) (by intro u hu; simp only [encs, List.mem_map] at hu; obtain ⟨q, _, rfl⟩ := hu; rfl)
  refine ⟨_, ?_, h.put p _ hp'⟩
  obtain ⟨m, rfl⟩ : ∃ m, n = m + 1 := ⟨n - 1, by omega⟩
  simp only [Builtin.clear_]
  simp [run_underlying Try.underlying36, zv5, zc, hst]
/-- What Take tells and leaves. -/
def rtk (s : RP) (owner : Int) : RP := if (tk s.own s.F s.t owner).b then { own := (tk s.own s.F s.t owner).own, F := (tk s.own s.F s.t owner).F, t := (tk s.own s.F s.t owner).t, B := over s.B (4096 * (tk s.own s.F s.t owner).v.toNat) (List.replicate 4096 0), q := s.q } else s

theorem e4096s (n : Nat) (h : n < 1000) : wrap64 ((n : Int) + 1) = (n : Int) + 1 := by unfold wrap64; omega
theorem e4096t (n m : Nat) (h : n < 1000) (hm : m = 4096 * n + 4096) : wrap64 (((n : Int) + 1) * 4096) = (m : Int) := by unfold wrap64; omega
theorem tk_v {own F : List Int} {n f : Nat} (h : OK own F n f) (t owner : Int) (hb : (tk own F t owner).b = true) : ∃ x : Nat, (tk own F t owner).v = (x : Int) ∧ x < n := by
  unfold tk at hb ⊢
  split
  · rename_i hc
    rw [if_pos hc] at hb
    have hm : F.getLastD 0 ∈ F := by
      rw [List.getLastD_eq_getLast?, List.getLast?_eq_some_getLast hc.1]
      exact List.getLast_mem hc.1
    have := h.are _ hm
    exact ⟨(F.getLastD 0).toNat, by show F.getLastD 0 = _; omega, by omega⟩
  · rename_i hc
    rw [if_neg hc] at hb
    cases hb
theorem tk_no {own F : List Int} (t owner : Int) (hb : (tk own F t owner).b = false) : tk own F t owner = ⟨own, F, t, 0, false⟩ := by
  unfold tk at hb ⊢
  split
  · rename_i hc
    rw [if_pos hc] at hb
    cases hb
  · rfl
def RA.at (a : RA) (A2 : Option Addr) (c2 : Nat) : RA := ⟨a.g, a.f, a.o, a.c0, A2, c2, a.b, a.cb⟩
set_option maxHeartbeats 8000000 in
set_option maxRecDepth 100000 in
theorem ram_take (base : Nat) (a : RA) (s : RP) (owner : Int) (w : World) (h : RS w base a s) {m f : Nat} (hg : RG s m f) :
    Calls Try.prog 19 #[.pointer (some ⟨a.g, 0, none⟩), .int .i64 owner] w fun e w' => ∃ A2 c2, e = .returned (.tuple #[.int .i64 (tk s.own s.F s.t owner).v, .bool (tk s.own s.F s.t owner).b]) ∧ RS w' base (a.at A2 c2) (rtk s owner) ∧ Far (Rown a) w w' ∧ (∀ k, Rown (a.at A2 c2) k → Rown a k ∨ w.heap.size ≤ k) := by
  have k0 : w.cell? ⟨a.g, 0, none⟩ = some (.pointer (some ⟨a.f, 0, none⟩)) := (blk_cell h.blk 0).trans rfl
  have hN := Aside0.mk (none_q base a s w h)
  have hT := Aside0.mk (take_calls base a.f s.own s.F s.t a.o a.c0 a.A1 a.c1 owner w h.fs hg.ok _ rfl)
  have hset : ∀ (w2 : World) (A2 : Option Addr) (c2 : Nat) (r : Res), FS w2 base a.f r.own r.F r.t a.o a.c0 A2 c2 → Far (Fown a.f a.o a.A1) w w2 → (∀ k, Fown a.f a.o A2 k → Fown a.f a.o a.A1 k ∨ w.heap.size ≤ k) → RS w2 base (a.at A2 c2) { own := r.own, F := r.F, t := r.t, B := s.B, q := s.q } ∧ Far (Rown a) w w2 ∧ (∀ k, Rown (a.at A2 c2) k → Rown a k ∨ w.heap.size ≤ k) := by
    intro w2 A2 c2 r hs hf hk
    refine ⟨⟨hf.blk h.blk h.g_not, hs, Kd.R_step h.bs (fun k hk hlt => hf.block k hlt (by rw [hk]; exact h.b_not)), h.ge⟩, hf.mono (fun k hk => .inr (.inr hk)), fun k hk' => ?_⟩
    rcases hk' with e | e | e
    · exact .inl (.inl e)
    · exact .inl (.inr (.inl e))
    · rcases hk k e with e | e
      · exact .inl (.inr (.inr e))
      · exact .inr e
  replace hset := Aside0.mk hset
  cases hb : (tk s.own s.F s.t owner).b with
  | false =>
    have hr : rtk s owner = s := by unfold rtk; rw [hb]; rfl
    have ht := tk_no s.t owner hb
    rw [ht] at hT ⊢
    rw [hr]
    clear h hb hr ht hg
    go_enter Try.func19, Try.ntmps19
    go_wp2_with (first | (go_at_call 26; refine hN.out.mono ?_; rintro e w2 ⟨rfl, rfl⟩) | (go_at_call 27; refine hT.out.mono ?_; rintro e w3 ⟨A2, c2, rfl, hs, ho, hf, hk⟩; have hq := Aside0.mk (hset.out w3 A2 c2 ⟨s.own, s.F, s.t, 0, false⟩ hs hf hk); clear hs ho hf hk))
    go_returns
    obtain ⟨h1, h2, h3⟩ := hq.out
    exact ⟨A2, c2, rfl, h1, h2, h3⟩
  | true =>
    obtain ⟨x, hx, hxm⟩ := tk_v hg.ok s.t owner hb
    have hr : rtk s owner = { own := (tk s.own s.F s.t owner).own, F := (tk s.own s.F s.t owner).F, t := (tk s.own s.F s.t owner).t, B := over s.B (4096 * x) (List.replicate 4096 0), q := s.q } := by unfold rtk; rw [hb, hx]; rfl
    rw [hr]
    obtain ⟨Z, hZ⟩ : ∃ Z, Z = List.replicate 4096 (0 : Int) := ⟨_, rfl⟩
    rw [← hZ]
    replace hZ := Aside0.mk hZ
    have hm96 := hg.m96
    have hBl := hg.B
    have hc := (Kd.R_reads' h.bs).2.1
    obtain ⟨r, hrr⟩ : ∃ r, r = tk s.own s.F s.t owner := ⟨_, rfl⟩
    rw [← hrr] at hT hb hx ⊢
    rw [hx, hb] at hT
    rw [hx]
    have hx1000 : x < 1000 := by omega
    obtain ⟨p, hp⟩ : ∃ p, p = 4096 * x := ⟨_, rfl⟩
    obtain ⟨p2, hp2⟩ : ∃ p2, p2 = 4096 * x + 4096 := ⟨_, rfl⟩
    have c1 : p2 ≤ a.cb := by omega
    have c2 : p + 4096 ≤ s.B.length := by omega
    have g1 : decide (p ≤ p2) = true := decide_eq_true (by omega)
    have g2 : decide (p2 ≤ a.cb) = true := decide_eq_true c1
    have g3 : decide ((p : Int) ≤ (p2 : Int)) = true := decide_eq_true (by omega)
    have g4 : decide ((p2 : Int) ≤ (a.cb : Int)) = true := decide_eq_true (by omega)
    have g5 : decide ((a.cb : Int) < (p2 : Int)) = false := decide_eq_false (by omega)
    have g6 : decide ((p2 : Int) < (p : Int)) = false := decide_eq_false (by omega)
    have gcb : ¬ a.cb = p := by omega
    have g7 : p ≤ p2 := by omega
    have gcb2 : ¬ a.cb - p = 0 := by omega
    have hpp := Aside0.mk (show p2 - p = 4096 by omega)
    have e3 := e4096t x p2 hx1000 hp2
    have e1 := e4096 x hx1000
    have e2 := e4096s x hx1000
    rw [← hp] at e1 ⊢
    replace c2 := Aside0.mk c2
    clear h hg hm96 hBl hc hxm hrr hr hx hx1000 hp hp2
    have hb' := hb
    clear hb
    go_enter Try.func19, Try.ntmps19
    go_upto_region 5 with (first | (go_at_call 26; refine hN.out.mono ?_; rintro e w2 ⟨rfl, rfl⟩) | (go_at_call 27; refine hT.out.mono ?_; rintro e w3 ⟨A2, c2', rfl, hs, ho, hf, hk⟩; have hq := Aside0.mk (hset.out w3 A2 c2' r hs hf hk); clear hs ho hf hk))
    have k1 : w3.cell? ⟨a.g, 1, none⟩ = some (.slice (some ⟨a.b, 0, none⟩) s.B.length a.cb) := (blk_cell hq.out.1.blk 1).trans rfl
    obtain ⟨w4, hrun, hs4, hf4⟩ := clear_over hq.out.1 p 4096 (a.cb - p) (by decide) c2.out
    rw [← hZ.out] at hs4
    have hrun' : Sem.run Try.prog (Builtin.clear_ #[36] 0 #[Value.slice (some { block := a.b, off := p }) (p2 - p) (a.cb - p)]) w3 = Result.ok (Value.tuple #[]) w4 := by rw [hpp.out]; exact hrun
    replace hs4 := Aside0.mk hs4
    replace hf4 := Aside0.mk hf4
    clear hrun k0
    go_wp2
    go_returns
    obtain ⟨h1, h2, h3⟩ := hq.out
    exact ⟨rfl, A2, c2', hs4.out, h2.then_ (hf4.out.mono (fun k hk => .inr (.inl hk))), h3⟩

/-! the example -/
theorem RG.new (n : Nat) (h : n ≤ 96) : RG ⟨List.replicate n 0, dn n 0, 0, List.replicate (4096 * n) 0, 0⟩ n n :=
  ⟨OK.new n (by omega), h, List.length_replicate, fun x hx => by rw [(List.mem_replicate.1 hx).2]; omega⟩
theorem isBytes_over {B l : List Int} (hB : isBytes B) (hl : isBytes l) (p : Nat) : isBytes (over B p l) := ((hB.take p).app hl).app (hB.drop _)
theorem isBytes_zeros (n : Nat) : isBytes (List.replicate n 0) := fun x hx => by rw [(List.mem_replicate.1 hx).2]; omega
theorem RG.take {s : RP} {m f : Nat} (h : RG s m f) (owner : Int) : RG (rtk s owner) m f := by
  unfold rtk
  cases hb : (tk s.own s.F s.t owner).b with
  | false => exact h
  | true =>
    obtain ⟨x, hx, hxm⟩ := tk_v h.ok s.t owner hb
    rw [if_pos rfl, hx, Int.toNat_natCast]
    have hB := h.B
    refine ⟨h.ok.tk s.t owner, h.m96, ?_, isBytes_over h.by_ (isBytes_zeros _) _⟩
    show (over s.B (4096 * x) (List.replicate 4096 0)).length = 4096 * m
    rw [over_length _ _ _ (by rw [List.length_replicate]; omega)]
    exact hB
theorem RG.q {s : RP} {m f : Nat} (h : RG s m f) (q : Int) : RG { s with q := q } m f := ⟨h.ok, h.m96, h.B, h.by_⟩
theorem RG.put {s : RP} {m f : Nat} (h : RG s m f) (q : Int) (p : Nat) (l : List Int) (hp : p + l.length ≤ s.B.length) (hl : isBytes l) : RG { s with q := q, B := over s.B p l } m f :=
  ⟨h.ok, h.m96, (over_length _ _ _ hp).trans h.B, isBytes_over h.by_ hl p⟩
def s0 : RP := ⟨List.replicate 8 0, dn 8 0, 0, List.replicate (4096 * 8) 0, 0⟩
theorem tk_s0 : tk s0.own s0.F s0.t 1 = ⟨[1, 0, 0, 0, 0, 0, 0, 0], [7, 6, 5, 4, 3, 2, 1], 1, 0, true⟩ := by kernel_rfl
theorem lit7 (w : World) : Kd.C (Kd.int .u8) (w.alloc (.cells #[.int .u8 7] 5 (0, 0))) (some ⟨w.heap.size, 0, none⟩) 1 [7] := CopyAt.lit_C w .u8 [7] #[.int .u8 7] 5 (0, 0) rfl (by simp)
theorem take_over (B l : List Int) (p : Nat) (h : p ≤ B.length) (r : Nat) : ((over B p (l ++ List.replicate r 0)).drop p).take (l.length + r) = l ++ List.replicate r 0 := by
  unfold over
  rw [List.append_assoc, List.drop_append_of_le_length (by rw [List.length_take]; omega), List.drop_of_length_le (by rw [List.length_take]; omega), List.nil_append, List.take_append_of_le_length (by simp), List.take_of_length_le (by simp)]

end Go.Proofs.Ytejeehcmcadmcaa.Hand
