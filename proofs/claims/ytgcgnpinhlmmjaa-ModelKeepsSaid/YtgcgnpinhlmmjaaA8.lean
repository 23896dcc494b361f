/- Ops done, one behind the other: walked. -/
import Derived.Test.YtgcgnpinhlmmjaaA7
namespace Go.Proofs.Ytgcgnpinhlmmjaa.Hand
set_option linter.unusedVariables false
set_option linter.unusedSimpArgs false
open Go.RowKit Go.Maps Go.Proofs.Ytgcgnpinhlmmjaa.R Go.Proofs.Ytgcgnpinhlmmjaa.Va Go.Proofs.YtgcgnpinhlmmjaaW.PrintWords Go.Proofs.YtgcgnpinhlmmjaaW.PrintLast Go.Proofs.YtgcgnpinhlmmjaaW.PrintMore

/-! an answer -/
structure S28 where
  f0 : Int
  f1 : Int
  f2 : (List Int)
def z28 : S28 := ⟨(0 : Int), (0 : Int), ([] : List Int)⟩
def k28 : Kd S28 := Kd.iso (Kd.pair (Kd.int .i64) (Kd.pair (Kd.int .i64) (Kd.slice 5 (Kd.int .u8)))) (fun x : S28 => (x.f0, x.f1, x.f2))
theorem k28_open {w : World} {x : S28} {cs : List Value} (h : k28.K w x cs) : ∃ A2 c2, cs = [.int .i64 x.f0, .int .i64 x.f1, .slice A2 x.f2.length c2] ∧ x.f2.length ≤ c2 ∧ (Kd.int .u8).C w A2 x.f2.length x.f2 := by
  obtain ⟨_, _, rfl, rfl, ⟨_, _, rfl, rfl, ⟨A2, c2, rfl, l2, g2⟩⟩⟩ := h
  exact ⟨A2, c2, rfl, l2, g2⟩
theorem k28_openM {w : World} {base : Nat} {ok : Nat → Prop} {x : S28} {cs : List Value} (h : k28.M w base ok x cs) : ∃ v2, cs = [.int .i64 x.f0, .int .i64 x.f1, v2] ∧ (Kd.int .u8).R 5 w base ok v2 x.f2 := by
  obtain ⟨_, _, rfl, rfl, ⟨_, _, rfl, rfl, ⟨v2, rfl, g2⟩⟩⟩ := h
  exact ⟨v2, rfl, g2⟩
theorem k28_mk (w : World) (x : S28) {A2 : Option Addr} {c2 : Nat} (l2 : x.f2.length ≤ c2) (g2 : (Kd.int .u8).C w A2 x.f2.length x.f2) : k28.K w x [.int .i64 x.f0, .int .i64 x.f1, .slice A2 x.f2.length c2] := ⟨[.int .i64 x.f0], [.int .i64 x.f1, .slice A2 x.f2.length c2], rfl, rfl, ⟨[.int .i64 x.f1], [.slice A2 x.f2.length c2], rfl, rfl, ⟨A2, c2, rfl, l2, g2⟩⟩⟩
theorem k28_mkM (w : World) (base : Nat) (ok : Nat → Prop) (x : S28) {v2 : Value} (g2 : (Kd.int .u8).R 5 w base ok v2 x.f2) : k28.M w base ok x [.int .i64 x.f0, .int .i64 x.f1, v2] := ⟨[.int .i64 x.f0], [.int .i64 x.f1, v2], rfl, rfl, ⟨[.int .i64 x.f1], [v2], rfl, rfl, ⟨v2, rfl, g2⟩⟩⟩
theorem k28_openF {W : World} {ok : Nat → Prop} {x : S28} {cs : List Value} (h : Kd.FK k28 W ok x cs) : ∃ A2 c2, cs = [.int .i64 x.f0, .int .i64 x.f1, .slice A2 x.f2.length c2] ∧ x.f2.length ≤ c2 ∧ Kd.F (Kd.int .u8) W ok A2 x.f2.length x.f2 := by
  obtain ⟨A2, c2, rfl, l2, _⟩ := k28_open (Kd.FK_now h)
  exact ⟨A2, c2, rfl, l2, (fun W' hW => by obtain ⟨A2_, c2_, he, l2_, g2_⟩ := k28_open (h W' hW); injection (Option.some.inj (show some (Value.slice A2 x.f2.length c2) = some (Value.slice A2_ x.f2.length c2_) from congrArg (fun l => l[2]?) he)) with ha_ _ _; rw [ha_]; exact g2_)⟩
theorem k28_mkF (W : World) (ok : Nat → Prop) (x : S28) {A2 : Option Addr} {c2 : Nat} (l2 : x.f2.length ≤ c2) (g2 : Kd.F (Kd.int .u8) W ok A2 x.f2.length x.f2) : Kd.FK k28 W ok x [.int .i64 x.f0, .int .i64 x.f1, .slice A2 x.f2.length c2] := fun W2 hW => k28_mk W2 x l2 (g2 W2 hW)
def rd_T28 (xs : List S28) (i : Int) : S28 := xs.getD i.toNat z28
theorem at_T28 {w : World} {A : Option Addr} {n : Nat} {xs : List S28} (h : Kd.C k28 w A n xs) (i : Int) (h0 : 0 ≤ i) (h1 : i < n) : ∃ ad A2 c2, A = some ad ∧ w.cell? (ad.add (i.toNat * 3)) = some (.int .i64 (rd_T28 xs i).f0) ∧ w.cell? ⟨(ad.add (i.toNat * 3)).block, (ad.add (i.toNat * 3)).off + 1, none⟩ = some (.int .i64 (rd_T28 xs i).f1) ∧ w.cell? ⟨(ad.add (i.toNat * 3)).block, (ad.add (i.toNat * 3)).off + 2, none⟩ = some (.slice A2 (rd_T28 xs i).f2.length c2) ∧ (rd_T28 xs i).f2.length ≤ c2 ∧ (Kd.int .u8).C w A2 (rd_T28 xs i).f2.length (rd_T28 xs i).f2 := by
  obtain ⟨ad, c, e, _, hK, hc0⟩ := Kd.C_get h z28 i h0 h1
  have hc : ∀ j u, c[j]? = some u → w.cell? (ad.add (i.toNat * 3 + j)) = some u := hc0
  obtain ⟨A2, c2, rfl, l2, g2⟩ := k28_open hK
  exact ⟨ad, A2, c2, e, hc 0 _ rfl, by rw [← add_field _ _ 1 (by omega)]; exact hc 1 _ rfl, by rw [← add_field _ _ 2 (by omega)]; exact hc 2 _ rfl, l2, g2⟩

theorem info28 : (Try.prog.info? 28).map (fun i => (i.zero, i.size, i.bytes)) = some (some (.agg #[.int .i64 0, .int .i64 0, .slice none 0 0]), 3, 40) := by kernel_rfl
/-- An op as it must be. -/
def okO (o : S25) : Prop := 0 ≤ o.f3 ∧ o.f3 < 18446744073709551616 ∧ ∀ x ∈ o.f4, 0 ≤ x ∧ x < 256
theorem doesL_num {o : S25} {k : Int} (h : o.f0 = k) : True := trivial
theorem does_calls (base bb mb cnt : Nat) (D : DataW Unit) (L : List Pg) (B : Int → Nat × Nat) (o : S25) (ho : okO o) (A : Option Addr) (c : Nat) (w : World) (h : MD w base bb mb cnt D L B) (hcnt : cnt ≤ 1000000) (okp : Nat → Prop) (hF : Kd.F (Kd.int .u8) w okp A o.f4.length o.f4) (hok : ∀ k, okp k → ¬ Mown mb L B k) :
    Calls Try.prog 30 #[.pointer (some ⟨bb, 0, none⟩), .agg #[.int .i64 o.f0, .int .i64 o.f1, .int .i64 o.f2, .int .u64 o.f3, .slice A o.f4.length c]] w (Done w base bb mb (cnt + 1) L (doesL L o).1 B (doesL L o).2.1 (doesL L o).2.2) := by
  obtain ⟨h1, h2, h3⟩ := ho
  have ha : o.f3.toNat < 18446744073709551616 := by omega
  have hoa : o.f3 = ((o.f3.toNat : Nat) : Int) := by omega
  have hdat : ∀ W, Far (Mown mb L B) w W → Kd.C (Kd.int .u8) W A o.f4.length o.f4 := fun W hW => Kd.F_now (Kd.F_step hF (fun k hk hlt => hW.block k hlt (hok k hk)))
  unfold doesL
  by_cases k0 : o.f0 = 0
  · rw [if_pos k0]; exact does_map base bb mb cnt D L B o A c _ ha hoa w h hcnt k0
  rw [if_neg k0]
  by_cases k1 : o.f0 = 1
  · rw [if_pos k1]; exact does_unmap base bb mb cnt D L B o A c _ ha hoa w h hcnt k1
  rw [if_neg k1]
  by_cases k2 : o.f0 = 2
  · rw [if_pos k2]; exact does_protect base bb mb cnt D L B o A c _ ha hoa w h hcnt k2
  rw [if_neg k2]
  by_cases k3 : o.f0 = 3
  · rw [if_pos k3]; exact does_load base bb mb cnt D L B o A c _ ha hoa w h hcnt k3
  rw [if_neg k3]
  by_cases k5 : o.f0 = 5
  · rw [if_pos k5]; exact does_fetch base bb mb cnt D L B o A c _ ha hoa w h hcnt k5
  rw [if_neg k5]
  by_cases k4 : o.f0 = 4
  · rw [if_pos k4]; exact does_store base bb mb cnt D L B o A c _ ha hoa w h hcnt k4 h3 hdat
  rw [if_neg k4]
  by_cases k10 : o.f0 = 10
  · rw [if_pos k10]
    by_cases l1 : 4 ≤ o.f2
    · by_cases l2 : o.f2 ≤ 96
      · rw [if_pos ⟨l1, l2⟩]; exact does_limit_yes base bb mb cnt D L B o A c _ ha hoa w h hcnt k10 ⟨l1, l2⟩
      · rw [if_neg (fun e => l2 e.2)]; exact does_limit_high base bb mb cnt D L B o A c _ ha hoa w h hcnt k10 l1 l2
    · rw [if_neg (fun e => l1 e.1)]; exact does_limit_low base bb mb cnt D L B o A c _ ha hoa w h hcnt k10 l1
  rw [if_neg k10]
  by_cases k6 : o.f0 = 6
  · rw [if_pos k6]; exact does_reclaim base bb mb cnt D L B o A c _ ha hoa w h hcnt k6
  rw [if_neg k6]
  by_cases k7 : o.f0 = 7
  · rw [if_pos k7]; exact does_compact base bb mb cnt D L B o A c _ ha hoa w h hcnt k7
  rw [if_neg k7]
  by_cases k8 : o.f0 = 8
  · rw [if_pos k8]; exact does_writeback base bb mb cnt D L B o A c _ ha hoa w h hcnt k8
  rw [if_neg k8]
  by_cases k9 : o.f0 = 9
  · rw [if_pos k9]; exact does_shrink base bb mb cnt D L B o A c _ ha hoa w h hcnt k9
  rw [if_neg k9]
  exact does_none base bb mb cnt D L B o A c _ ha hoa w h hcnt (by omega)

/-! ops, one behind the other -/
def ansOf (L : List Pg) (o : S25) : S28 := ⟨(doesL L o).2.1, 0, (doesL L o).2.2⟩
def runL (L : List Pg) : List S25 → List Pg × List S28
  | [] => (L, [])
  | o :: os => ((runL (doesL L o).1 os).1, ansOf L o :: (runL (doesL L o).1 os).2)
theorem runL_snoc (os : List S25) (o : S25) : ∀ L, runL L (os ++ [o]) = ((doesL (runL L os).1 o).1, (runL L os).2 ++ [ansOf (runL L os).1 o]) := by
  induction os with
  | nil => intro L; rfl
  | cons x os ih =>
    intro L
    rw [List.cons_append]
    unfold runL
    rw [ih]
    rfl
theorem runL_take (L : List Pg) (os : List S25) (i : Nat) (hi : i < os.length) : runL L (os.take (i + 1)) = ((doesL (runL L (os.take i)).1 os[i]).1, (runL L (os.take i)).2 ++ [ansOf (runL L (os.take i)).1 os[i]]) := by
  rw [List.take_succ_eq_append_getElem hi, runL_snoc]
theorem runL_length (L : List Pg) (os : List S25) : (runL L os).2.length = os.length := by
  induction os generalizing L with
  | nil => rfl
  | cons x os ih =>
    show (ansOf L x :: (runL (doesL L x).1 os).2).length = _
    rw [List.length_cons, List.length_cons, ih]
/-- An op of a row that is only read. -/
theorem atF25 {W : World} {ok : Nat → Prop} {A : Option Addr} {xs : List S25} (h : Kd.F k25 W ok A xs.length xs) (i : Nat) (hi : i < xs.length) : ∃ ad A4 c4, A = some ad ∧ W.cell? (ad.add (i * 5)) = some (.int .i64 xs[i].f0) ∧ W.cell? ⟨(ad.add (i * 5)).block, (ad.add (i * 5)).off + 1, none⟩ = some (.int .i64 xs[i].f1) ∧
    W.cell? ⟨(ad.add (i * 5)).block, (ad.add (i * 5)).off + 2, none⟩ = some (.int .i64 xs[i].f2) ∧ W.cell? ⟨(ad.add (i * 5)).block, (ad.add (i * 5)).off + 3, none⟩ = some (.int .u64 xs[i].f3) ∧ W.cell? ⟨(ad.add (i * 5)).block, (ad.add (i * 5)).off + 4, none⟩ = some (.slice A4 xs[i].f4.length c4) ∧ Kd.F (Kd.int .u8) W ok A4 xs[i].f4.length xs[i].f4 := by
  obtain ⟨ad, c, e, _, hK, hc0, _⟩ := Kd.F_get h z25 (i : Int) (by omega) (by omega)
  have hg : xs.getD (i : Int).toNat z25 = xs[i] := by
    rw [Int.toNat_natCast, List.getD_eq_getElem?_getD, List.getElem?_eq_getElem hi]
    rfl
  rw [hg] at hK
  obtain ⟨A4, c4, rfl, _, hF⟩ := k25_openF hK
  have hc : ∀ j u, _ → W.cell? (ad.add (i * 5 + j)) = some u := fun j u hju => by
    have := hc0 j u hju
    rwa [Int.toNat_natCast] at this
  exact ⟨ad, A4, c4, e, hc 0 _ rfl, by rw [← add_field _ _ 1 (by omega)]; exact hc 1 _ rfl, by rw [← add_field _ _ 2 (by omega)]; exact hc 2 _ rfl, by rw [← add_field _ _ 3 (by omega)]; exact hc 3 _ rfl, by rw [← add_field _ _ 4 (by omega)]; exact hc 4 _ rfl, hF⟩
/-- The state between two ops. -/
structure DI (w w' : World) (base bb mb cnt : Nat) (L L' : List Pg) (B : Int → Nat × Nat) (v : Value) (rs : List S28) : Prop where
  out : ∃ B', ME w' base bb mb cnt L' B' ∧ (∀ k, Mown mb L' B' k → Mown mb L B k ∨ w.heap.size ≤ k) ∧ Far (Mown mb L B) w w' ∧ Kd.R k28 28 w' w.heap.size (fun k => ¬ Mown mb L' B' k ∧ k ≠ bb) v rs
end Go.Proofs.Ytgcgnpinhlmmjaa.Hand
