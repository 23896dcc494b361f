/- ram: part (refused), Read, Write, word, Word, SetWord, Take, walked by hand. -/
import Derived.Test.YtejeehcmcadmcaaM1
import Derived.OpenShut
namespace Go.Proofs.Ytejeehcmcadmcaa.Hand
set_option linter.unusedVariables false
set_option linter.unusedSimpArgs false
open Go.RowKit Go.Proofs.Ytejeehcmcadmcaa.R Go.Proofs.YtejeehcmcadmcaaW.PrintWords Go.Proofs.YtejeehcmcadmcaaW.PrintLast Go.Proofs.YtejeehcmcadmcaaW.PrintMore

/-- May bytes be read, or written? -/
def isBytes (l : List Int) : Prop := ∀ x ∈ l, 0 ≤ x ∧ x < 256
theorem isBytes.of_wf {l : List Int} (h : ∀ x ∈ l, (Lit.int .u8 x).wf = true) : isBytes l := by
  intro x hx
  have := h x hx
  have := bounds_u8 this
  omega
theorem isBytes.drop {l : List Int} (h : isBytes l) (n : Nat) : isBytes (l.drop n) := fun x hx => h x (List.mem_of_mem_drop hx)
theorem isBytes.take {l : List Int} (h : isBytes l) (n : Nat) : isBytes (l.take n) := fun x hx => h x (List.mem_of_mem_take hx)
theorem isBytes.app {l r : List Int} (h : isBytes l) (h2 : isBytes r) : isBytes (l ++ r) := fun x hx => (List.mem_append.1 hx).elim (h x) (h2 x)
def pok (s : RP) (n at_ size : Int) : Prop := ownerOf s.own n ≠ 0 ∧ 0 ≤ size ∧ 0 ≤ at_ ∧ at_ ≤ 4096 - size
instance (s : RP) (n at_ size : Int) : Decidable (pok s n at_ size) := by unfold pok; infer_instance
theorem w4096 (x : Int) (h0 : 0 ≤ x) (h : x < 9223372036854775808) : wrap64 (4096 - x) = 4096 - x := by unfold wrap64; omega
set_option maxHeartbeats 8000000 in
set_option maxRecDepth 100000 in
theorem part_no (base : Nat) (a : RA) (s : RP) (n at_ size : Int) (w : World) (h : RS w base a s) (hs : size < 9223372036854775808) (hno : ¬ pok s n at_ size) :
    Calls Try.prog 28 #[.pointer (some ⟨a.g, 0, none⟩), .int .i64 n, .int .i64 at_, .int .i64 size] w fun e w' => e = .returned (.tuple #[.slice none 0 0, .bool false]) ∧ w' = w := by
  have k0 : w.cell? ⟨a.g, 0, none⟩ = some (.pointer (some ⟨a.f, 0, none⟩)) := (blk_cell h.blk 0).trans rfl
  have hO := Aside0.mk (owner_q base a.f s.own s.F s.t a.o a.c0 a.A1 a.c1 n w h.fs)
  have hN := Aside0.mk (fun W (hW : RS W base a s) => none_q base a s W hW)
  unfold pok at hno
  replace h := Aside0.mk h
  by_cases h0 : ownerOf s.own n = 0
  · rw [h0] at hO
    clear hno
    go_enter Try.func28, Try.ntmps28
    go_wp2_with (first | (go_at_call 26; refine (hN.out _ h.out).mono ?_; rintro e w2 ⟨rfl, rfl⟩) | (go_at_call 29; refine hO.out.mono ?_; rintro e w2 ⟨rfl, rfl⟩))
    go_returns
    exact ⟨rfl, rfl⟩
  have b1 : (ownerOf s.own n == 0) = false := beq_eq_false_iff_ne.mpr h0
  generalize ownerOf s.own n = ow at *
  by_cases h1 : size < 0
  · have d1 : decide (size < 0) = true := decide_eq_true h1
    clear hno
    go_enter Try.func28, Try.ntmps28
    go_wp2_with (first | (go_at_call 26; refine (hN.out _ h.out).mono ?_; rintro e w2 ⟨rfl, rfl⟩) | (go_at_call 29; refine hO.out.mono ?_; rintro e w2 ⟨rfl, rfl⟩))
    go_returns
    exact ⟨rfl, rfl⟩
  have d1 : decide (size < 0) = false := decide_eq_false h1
  by_cases h2 : at_ < 0
  · have d2 : decide (at_ < 0) = true := decide_eq_true h2
    clear hno
    go_enter Try.func28, Try.ntmps28
    go_wp2_with (first | (go_at_call 26; refine (hN.out _ h.out).mono ?_; rintro e w2 ⟨rfl, rfl⟩) | (go_at_call 29; refine hO.out.mono ?_; rintro e w2 ⟨rfl, rfl⟩))
    go_returns
    exact ⟨rfl, rfl⟩
  have d2 : decide (at_ < 0) = false := decide_eq_false h2
  have h3 : at_ > 4096 - size := by
    by_cases h3 : at_ ≤ 4096 - size
    · exact absurd ⟨h0, by omega, by omega, h3⟩ hno
    · omega
  have d3 : decide (at_ > 4096 - size) = true := decide_eq_true h3
  have d4 : decide (4096 - size < at_) = true := decide_eq_true h3
  have ew := w4096 size (by omega) hs
  clear hno h3 hs
  go_enter Try.func28, Try.ntmps28
  go_wp2_with (first | (go_at_call 26; refine (hN.out _ h.out).mono ?_; rintro e w2 ⟨rfl, rfl⟩) | (go_at_call 29; refine hO.out.mono ?_; rintro e w2 ⟨rfl, rfl⟩))
  go_returns
  exact ⟨rfl, rfl⟩

/-- What is told of a RAM: as many bytes as frames have. -/
structure RG (s : RP) (m f : Nat) : Prop where
  ok : OK s.own s.F m f
  m96 : m ≤ 96
  B : s.B.length = 4096 * m
  by_ : isBytes s.B
/-- A frame that has an owner. -/
theorem pok_nat {s : RP} {m f : Nat} (hg : RG s m f) {n at_ size : Int} (h : pok s n at_ size) : ∃ x y z : Nat, n = (x : Int) ∧ at_ = (y : Int) ∧ size = (z : Int) ∧ x < s.own.length ∧ s.own.getD x 0 ≠ 0 ∧ y + z ≤ 4096 ∧ 4096 * x + y + z ≤ s.B.length := by
  obtain ⟨h0, h1, h2, h3⟩ := h
  have hb := ownerOf_ne h0
  have hl := hg.ok.len
  have hB := hg.B
  refine ⟨n.toNat, at_.toNat, size.toNat, by omega, by omega, by omega, by omega, ?_, by omega, by omega⟩
  unfold ownerOf at h0
  rw [if_pos hb] at h0
  exact h0
/-- A slice of the bytes, read. -/
theorem part_C {w : World} {base : Nat} {ok : Nat → Prop} {b cb : Nat} {B : List Int} (h : RB w base ok (.slice (some ⟨b, 0, none⟩) B.length cb) B) (p n off : Nat) (hp : p + n ≤ B.length) (ho : 0 < n → off = p) : Kd.C (Kd.int .u8) w (some ⟨b, off, none⟩) n ((B.drop p).take n) := by
  have hl : ((B.drop p).take n).length = n := by rw [List.length_take, List.length_drop]; omega
  have hC := (Kd.R_reads' h).2.2
  refine ⟨hl, ?_, fun hn => ⟨_, rfl, fun j x hj => ?_⟩⟩
  · have := hC.2.1
    omega
  · have hjn : j < n := by
      have := (List.getElem?_eq_some_iff.1 hj).1
      omega
    obtain ⟨ad, ha, hc⟩ := hC.2.2 (by omega)
    injection ha with ha
    subst ha
    rw [List.getElem?_take, if_pos hjn, List.getElem?_drop] at hj
    obtain ⟨cs, hcs, hk, hcell⟩ := hc (p + j) x hj
    refine ⟨cs, hcs, hk, fun i u hu => ?_⟩
    have := hcell i u hu
    rw [ho hn]
    rw [← this]
    congr 1
    have hi : i = 0 := by
      have h1 : cs.length = 1 := hcs
      have := (List.getElem?_eq_some_iff.1 hu).1
      omega
    subst hi
    have e1 : (Kd.int .u8).sz = 1 := rfl
    rw [e1]
    by_cases h1 : p + j = 0
    · have h2 : p = 0 := by omega
      have h3 : j = 0 := by omega
      simp [Addr.add, h2, h3]
    · by_cases h3 : j = 0
      · simp [Addr.add, h3]
        omega
      · simp [Addr.add, h1, h3]

set_option maxHeartbeats 8000000 in
set_option maxRecDepth 100000 in
theorem read_no (base : Nat) (a : RA) (s : RP) (n at_ size : Int) (w : World) (h : RS w base a s) (hs : size < 9223372036854775808) (hno : ¬ pok s n at_ size) :
    Calls Try.prog 22 #[.pointer (some ⟨a.g, 0, none⟩), .int .i64 n, .int .i64 at_, .int .i64 size] w fun e w' => ∃ v, e = .returned (.tuple #[v, .bool false]) ∧ RB w' w.heap.size (fun _ => True) v [] ∧ Below w.heap.size w w' := by
  have hP := Aside0.mk (part_no base a s n at_ size w h hs hno)
  have hC := fun W => slices_Clone_byte_byte.calls none 0 [] [] W (Kd.C_nil _ _) (Nat.le_refl _) (by unfold slices_Clone_byte_byte.f; rw [Option.bind_some, if_pos (by decide)]; rfl)
  clear h hs hno
  go_enter Try.func22, Try.ntmps22
  go_wp2_with (first | (go_at_call 28; refine hP.out.mono ?_; rintro e w2 ⟨rfl, rfl⟩) | (go_at_call 30; refine (hC _).mono ?_; rintro e w3 ⟨v, rfl, hr, hb⟩; replace hr := Aside0.mk hr; replace hb := Aside0.mk hb; obtain ⟨A3, c3, e3⟩ := Kd.R_slice hr.out; subst e3))
  go_returns
  exact ⟨_, rfl, hr.out, hb.out⟩
set_option maxHeartbeats 8000000 in
set_option maxRecDepth 100000 in
theorem read_yes (base : Nat) (a : RA) (s : RP) (n at_ size : Nat) (w : World) (h : RS w base a s) (hn : n < s.own.length) (ho : s.own.getD n 0 ≠ 0) (hf : at_ + size ≤ 4096) (hB : s.B.length = 4096 * s.own.length) (hl : s.own.length ≤ 96) :
    Calls Try.prog 22 #[.pointer (some ⟨a.g, 0, none⟩), .int .i64 (n : Int), .int .i64 (at_ : Int), .int .i64 (size : Int)] w fun e w' => ∃ v, e = .returned (.tuple #[v, .bool true]) ∧ RB w' w.heap.size (fun _ => True) v ((s.B.drop (4096 * n + at_)).take size) ∧ RS w' base a { s with q := wrap64 (s.q + 1) } ∧ Far (fun k => k = a.g) w w' := by
  have hP := Aside0.mk (part_yes base a s n at_ size w h hn ho hf hB hl)
  have hlen : ((s.B.drop (4096 * n + at_)).take size).length = size := by rw [List.length_take, List.length_drop]; omega
  have hfit := Aside0.mk (show 4096 * n + at_ + size ≤ s.B.length by omega)
  have hs4 := Aside0.mk (show size ≤ 4096 by omega)
  replace hlen := Aside0.mk hlen
  have hwg := Aside0.mk h
  clear h hn ho hf hB hl
  go_enter Try.func22, Try.ntmps22
  go_upto_region 2 with (go_at_call 28; refine hP.out.mono ?_; rintro e w2 ⟨off, c, rfl, hc, hoff, hs2, hf2⟩; replace hc := Aside0.mk hc; replace hoff := Aside0.mk hoff; replace hs2 := Aside0.mk hs2; replace hf2 := Aside0.mk hf2)
  have hC := part_C hs2.out.bs (4096 * n + at_) size off hfit.out hoff.out
  rw [show (size : Nat) = ((s.B.drop (4096 * n + at_)).take size).length from hlen.out.symm] at hC
  have hK := slices_Clone_byte_byte.calls (some ⟨a.b, off, none⟩) c ((s.B.drop (4096 * n + at_)).take size) ((s.B.drop (4096 * n + at_)).take size) w2 (by have := hC; rw [hlen.out] at this ⊢; exact this) (by rw [hlen.out]; exact hc.out) (by unfold slices_Clone_byte_byte.f; rw [Option.bind_some, if_pos (by rw [hlen.out]; have := hs4.out; simp; omega)]; rfl)
  rw [hlen.out] at hK
  replace hK := Aside0.mk hK
  clear hC
  go_wp2_with (go_at_call 30; refine hK.out.mono ?_; rintro e w3 ⟨v, rfl, hr, hb⟩; replace hr := Aside0.mk hr; replace hb := Aside0.mk hb; obtain ⟨A3, c3, e3⟩ := Kd.R_slice hr.out; rw [hlen.out] at e3; subst e3)
  go_returns
  exact ⟨_, rfl, Kd.R_lower hr.out hf2.out.size, hs2.out.below hb.out, hf2.out.then_ (Far.of_below hb.out)⟩

theorem cell_far {S : Nat → Prop} {w w' : World} {p : Addr} (f : Far S w w') (hS : ¬ S p.block) {u : Value} (h : w.cell? p = some u) : w'.cell? p = some u := by
  unfold World.cell? at h ⊢
  have hlt : p.block < w.heap.size := by
    rcases Nat.lt_or_ge p.block w.heap.size with hl | hl
    · exact hl
    · rw [Array.getElem?_eq_none hl] at h
      simp at h
  rw [f.block _ hlt hS]
  exact h
theorem C_stay {k : IntKind} {S : Nat → Prop} {w w' : World} {A : Option Addr} {n : Nat} {xs : List Int} (h : (Kd.int k).C w A n xs) (f : Far S w w') (hA : ∀ ad, A = some ad → 0 < n → ¬ S ad.block) : (Kd.int k).C w' A n xs := by
  refine ⟨h.1, h.2.1, fun hn => ?_⟩
  obtain ⟨ad, rfl, hc⟩ := h.2.2 hn
  refine ⟨ad, rfl, fun j x hj => ?_⟩
  obtain ⟨cs, hcs, hk, hcell⟩ := hc j x hj
  refine ⟨cs, hcs, hk, fun i u hu => cell_far f ?_ (hcell i u hu)⟩
  have : ((ad.add (j * (Kd.int k).sz + i))).block = ad.block := by unfold Addr.add; split <;> rfl
  rw [this]
  exact hA ad rfl hn

/-! builtins whose run is known -/
/-- Some bytes laid over others. -/
def over (B : List Int) (p : Nat) (l : List Int) : List Int := B.take p ++ l ++ B.drop (p + l.length)
theorem over_length (B : List Int) (p : Nat) (l : List Int) (h : p + l.length ≤ B.length) : (over B p l).length = B.length := by
  unfold over
  rw [List.length_append, List.length_append, List.length_take, List.length_drop]
  omega
theorem over_nil (B : List Int) (p : Nat) : over B p [] = B := by simp [over]
theorem RS.put {w : World} {base : Nat} {a : RA} {s : RP} (h : RS w base a s) (p : Nat) (l : List Int) (hp : p + l.length ≤ s.B.length) : RS (w.setCells a.b p (encs (Value.int .u8) l)) base a { s with B := over s.B p l } ∧ Far (fun k => k = a.b) w (w.setCells a.b p (encs (Value.int .u8) l)) := by
  obtain ⟨_, _, hr, hf⟩ := put_row .u8 base 5 a.b p a.cb s.B l _ h.bs hp
  refine ⟨⟨?_, h.fs.stay hf (fun k hk e => by subst e; exact h.b_not hk), ?_, h.ge⟩, hf⟩
  · show _ = some (Obj.cells #[.pointer (some ⟨a.f, 0, none⟩), .slice (some ⟨a.b, 0, none⟩) (over s.B p l).length a.cb, .int .i64 s.q] 62 (0, 0))
    rw [over_length _ _ _ hp]
    exact hf.blk h.blk h.g_ne_b
  · show RB _ _ _ (.slice (some ⟨a.b, 0, none⟩) (over s.B p l).length a.cb) _
    rw [over_length _ _ _ hp]
    exact hr
theorem size5 : (Try.prog.info? 5).map (·.size) = some 1 := by kernel_rfl
theorem copy_over {w : World} {base : Nat} {a : RA} {s : RP} (h : RS w base a s) (p off c : Nat) (A : Option Addr) (ca t : Nat) (l : List Int) (hC : Kd.C (Kd.int .u8) w A l.length l) (hp : p + l.length ≤ s.B.length) (ho : 0 < l.length → off = p) :
    ∃ w', (Builtin.copy_ #[36, 36] t #[.slice (some ⟨a.b, off, none⟩) l.length c, .slice A l.length ca]).run Try.prog w = .ok (.int .i64 ((l.length : Nat) : Int)) w' ∧ RS w' base a { s with B := over s.B p l } ∧ Far (fun k => k = a.b) w w' := by
  by_cases h0 : l.length = 0
  · have : l = [] := List.length_eq_zero_iff.mp h0
    subst this
    refine ⟨w, run_copy_none w 36 36 t 5 _ _ _ _ _ _ Try.underlying36 size5 (by simp), ?_, Far.refl _ _⟩
    rw [over_nil]
    exact h
  · rw [ho (by omega)]
    obtain ⟨h1, h2, _, _⟩ := put_row .u8 base 5 a.b p a.cb s.B l _ h.bs hp
    have hR := Kd.reads_of_C (enc := Value.int .u8) (d := (0 : Int)) (h1 := fun _ => rfl) hC
    obtain ⟨ad, rfl, hc⟩ := hR.2.2 (by omega)
    have hkl : (encs (Value.int .u8) l).length = l.length := encs_length ..
    have hr := run_copy_cells (P := Try.prog) w 36 36 t 5 a.b p l.length c ad l.length ca (encs (Value.int .u8) l) Try.underlying36 size5 (by rw [hkl]; exact (Nat.min_self _).symm)
      (fun j u hu => by
        have hj : j < l.length := by
          rcases Nat.lt_or_ge j l.length with h | h
          · exact h
          · rw [List.getElem?_eq_none (by rw [hkl]; exact h)] at hu
            cases hu
        rw [encs_get (d := (0 : Int)) _ j hj] at hu
        rw [hc j (by omega), ← hu]) h1 h2 (by intro u hu; simp only [encs, List.mem_map] at hu; obtain ⟨q, _, rfl⟩ := hu; rfl)
    rw [hkl] at hr
    exact ⟨_, hr, h.put p l hp⟩

theorem copy_nil (w : World) (t : Nat) (A : Option Addr) (n c : Nat) : (Builtin.copy_ #[36, 36] t #[.slice none 0 0, .slice A n c]).run Try.prog w = .ok (.int .i64 0) w :=
  run_copy_none w 36 36 t 5 _ _ _ _ _ _ Try.underlying36 size5 (by simp)
set_option maxHeartbeats 8000000 in
set_option maxRecDepth 100000 in
theorem write_no (base : Nat) (a : RA) (s : RP) (n at_ : Int) (A : Option Addr) (len c : Nat) (w : World) (h : RS w base a s) (hs : len < 9223372036854775808) (hno : ¬ pok s n at_ (len : Int)) :
    Calls Try.prog 20 #[.pointer (some ⟨a.g, 0, none⟩), .int .i64 n, .int .i64 at_, .slice A len c] w fun e w' => e = .returned (.bool false) ∧ w' = w := by
  have hP := Aside0.mk (part_no base a s n at_ (len : Int) w h (by omega) hno)
  have hcp := fun W => copy_nil W 3 A len c
  clear h hs hno
  go_enter Try.func20, Try.ntmps20
  go_wp2_with (go_at_call 28; refine hP.out.mono ?_; rintro e w2 ⟨rfl, rfl⟩)
  go_returns
  exact ⟨rfl, rfl⟩
set_option maxHeartbeats 8000000 in
set_option maxRecDepth 100000 in
theorem write_yes (base : Nat) (a : RA) (s : RP) (n at_ : Nat) (A : Option Addr) (c : Nat) (l : List Int) (w : World) (h : RS w base a s) (hn : n < s.own.length) (ho : s.own.getD n 0 ≠ 0) (hf : at_ + l.length ≤ 4096) (hB : s.B.length = 4096 * s.own.length) (hl : s.own.length ≤ 96) (hC : Kd.C (Kd.int .u8) w A l.length l) (hA : ∀ ad, A = some ad → 0 < l.length → ad.block ≠ a.g) :
    Calls Try.prog 20 #[.pointer (some ⟨a.g, 0, none⟩), .int .i64 (n : Int), .int .i64 (at_ : Int), .slice A l.length c] w fun e w' => e = .returned (.bool true) ∧ RS w' base a { s with q := wrap64 (s.q + 1), B := over s.B (4096 * n + at_) l } ∧ Far (fun k => k = a.g ∨ k = a.b) w w' := by
  have hP := Aside0.mk (part_yes base a s n at_ l.length w h hn ho hf hB hl)
  have hfit := Aside0.mk (show 4096 * n + at_ + l.length ≤ s.B.length by omega)
  replace hC := Aside0.mk hC
  replace hA := Aside0.mk hA
  clear h hn ho hf hB hl
  go_enter Try.func20, Try.ntmps20
  go_upto_region 2 with (go_at_call 28; refine hP.out.mono ?_; rintro e w2 ⟨off, c2, rfl, hc, hoff, hs2, hf2⟩; replace hc := Aside0.mk hc; replace hoff := Aside0.mk hoff; replace hs2 := Aside0.mk hs2; replace hf2 := Aside0.mk hf2)
  obtain ⟨w3, hrun, hs3, hf3⟩ := copy_over hs2.out (4096 * n + at_) off c2 A c 3 l (C_stay hC.out hf2.out hA.out) hfit.out hoff.out
  replace hs3 := Aside0.mk hs3
  replace hf3 := Aside0.mk hf3
  go_wp2
  go_returns
  exact ⟨rfl, hs3.out, (hf2.out.mono (fun k h => .inl h)).then_ (hf3.out.mono (fun k h => .inr h))⟩

theorem w8i (i : Nat) (h : i < 512) : wrap64 (8 * (i : Int)) = ((8 * i : Nat) : Int) := by unfold wrap64; omega
end Go.Proofs.Ytejeehcmcadmcaa.Hand
