/- Ops, pages, at a law's call: packed for the walks of laws. -/
import Derived.Test.YtgcgnpinhlmmjaaE2
import Derived.Test.YtgcgnpinhlmmjaaB0
import Derived.Test.YtgcgnpinhlmmjaaB3
namespace Go.Proofs.Ytgcgnpinhlmmjaa.Hand
set_option linter.unusedVariables false
set_option linter.unusedSimpArgs false
open Go.RowKit Go.Maps Go.Proofs.Ytgcgnpinhlmmjaa.R Go.Proofs.Ytgcgnpinhlmmjaa.Va Go.Proofs.YtgcgnpinhlmmjaaW.PrintWords Go.Proofs.YtgcgnpinhlmmjaaW.PrintLast Go.Proofs.YtgcgnpinhlmmjaaW.PrintMore

theorem heap25 : Kd.Heap k25 := Kd.heap_iso _ (Kd.heap_pair (Kd.heap_int _) (Kd.heap_pair (Kd.heap_int _) (Kd.heap_pair (Kd.heap_int _) (Kd.heap_pair (Kd.heap_int _) (Kd.heap_slice 5 (Kd.heap_int _))))))
def V25 (o : S25) (A : Option Addr) (c : Nat) : Array Value := #[.int .i64 o.f0, .int .i64 o.f1, .int .i64 o.f2, .int .u64 o.f3, .slice A o.f4.length c]
/-- A row of one op. -/
theorem oneC {W : World} {g : Nat} {o : S25} {A : Option Addr} {c : Nat} (h : W.heap[g]? = some (.cells (V25 o A c) 25 (0, 0))) (hd : Kd.C (Kd.int .u8) W A o.f4.length o.f4) (hc : o.f4.length ≤ c) : Kd.C k25 W (some ⟨g, 0, none⟩) [o].length [o] := by
  refine ⟨rfl, by show 1 ≤ 9223372036854775807; decide, fun _ => ⟨_, rfl, fun j p hj => ?_⟩⟩
  have hcl := c_blk h
  match j, hj with
  | 0, hj =>
    obtain rfl : o = p := Option.some.inj hj
    refine ⟨[.int .i64 o.f0, .int .i64 o.f1, .int .i64 o.f2, .int .u64 o.f3, .slice A o.f4.length c], rfl, k25_mk W o hc hd, fun i u hi => ?_⟩
    rw [show 0 * k25.sz + i = i by simp, hcl i]
    match i, hi with
    | 0, hi => exact hi
    | 1, hi => exact hi
    | 2, hi => exact hi
    | 3, hi => exact hi
    | 4, hi => exact hi
theorem oneF {W : World} {g : Nat} {o : S25} {A : Option Addr} {c : Nat} {ok : Nat → Prop} (h : W.heap[g]? = some (.cells (V25 o A c) 25 (0, 0))) (hd : Kd.F (Kd.int .u8) W ok A o.f4.length o.f4) (hc : o.f4.length ≤ c) : Kd.F k25 W (fun k => k = g ∨ ok k) (some ⟨g, 0, none⟩) [o].length [o] := fun W' hW =>
  oneC ((hW g (.inl rfl) (blk_lt h)).trans h) (hd W' (fun k hk hlt => hW k (.inr hk) hlt)) hc
theorem insP_length (l : List Pg) (x : Pg) : (insP l x).length = l.length + 1 := by
  induction l with
  | nil => rfl
  | cons y l ih =>
    unfold insP
    split
    · rfl
    · rw [List.length_cons, ih, List.length_cons]
theorem repP_length (l : List Pg) (x : Pg) : (repP l x).length = l.length := by unfold repP; rw [List.length_map]
theorem doesL_length (L : List Pg) (o : S25) : (doesL L o).1.length ≤ L.length + 1 := by
  unfold doesL
  split
  · show (mapL _ _ _).length ≤ _
    unfold mapL
    split
    · rw [insP_length]; exact Nat.le_refl _
    · omega
  split
  · show (unmapL _ _).length ≤ _
    unfold unmapL
    split
    · have := List.length_filter_le (fun p : Pg => p.n != pnum o.f3.toNat) L
      unfold delP
      omega
    · omega
  split
  · show (protL _ _ _).length ≤ _
    have h := congrArg List.length (protL_ns L o.f3.toNat o.f1)
    rw [List.length_map, List.length_map] at h
    omega
  split
  · exact Nat.le_succ _
  split
  · exact Nat.le_succ _
  split
  · show (storeL _ _ _).length ≤ _
    have h := congrArg List.length (storeL_ns L o.f3.toNat o.f4)
    rw [List.length_map, List.length_map] at h
    omega
  repeat (first | exact Nat.le_succ _ | split)
theorem runL_len (os : List S25) : ∀ L, (runL L os).1.length ≤ L.length + os.length := by
  induction os with
  | nil => intro L; exact Nat.le_refl _
  | cons o os ih =>
    intro L
    show (runL (doesL L o).1 os).1.length ≤ _
    have h1 := ih (doesL L o).1
    have h2 := doesL_length L o
    rw [List.length_cons]
    omega
/-- What Does leaves. -/
def DoG (w : World) (base bb mb cnt : Nat) (L L' : List Pg) (B : Int → Nat × Nat) (rs : List S28) (e : Ending) (w' : World) : Prop :=
  ∃ A c B', e = .returned (.slice A rs.length c) ∧ ME w' base bb mb cnt L' B' ∧ (∀ k, Mown mb L' B' k → Mown mb L B k ∨ w.heap.size ≤ k) ∧ Far (Mown mb L B) w w' ∧ Kd.R k28 28 w' w.heap.size (fun k => ¬ Mown mb L' B' k ∧ k ≠ bb) (.slice A rs.length c) rs
theorem Does_go {base bb mb cnt : Nat} {L : List Pg} {B : Int → Nat × Nat} (ops : List S25) (hwf : ∀ o ∈ ops, okO o) (hn : ops.length ≤ 1000) (A : Option Addr) (c : Nat) (w : World) (h : ME w base bb mb cnt L B) (hcnt : cnt ≤ 100000) {okp : Nat → Prop} (hF : Kd.F k25 w okp A ops.length ops) (hok : ∀ k, okp k → ¬ Mown mb L B k) :
    Calls Try.prog 14 #[.pointer (some ⟨bb, 0, none⟩), .slice A ops.length c] w (DoG w base bb mb (cnt + ops.length) L (runL L ops).1 B (runL L ops).2) := by
  obtain ⟨D, h⟩ := h
  refine (Does_calls base bb mb cnt D L B ops hwf hn A c w h hcnt okp hF hok).mono ?_
  rintro e w' ⟨v, rfl, hd⟩
  obtain ⟨B', h1, h2, h3, h4⟩ := hd.out
  obtain ⟨A', c', rfl⟩ := Kd.R_slice h4
  exact ⟨A', c', B', rfl, h1, h2, h3, h4⟩
/-- What Pages leaves. -/
def PgG (w : World) (ps : List S35) (e : Ending) (w' : World) : Prop := ∃ A c, e = .returned (.slice A ps.length c) ∧ Kd.R k35 35 w' w.heap.size (fun _ => True) (.slice A ps.length c) ps ∧ Below w.heap.size w w'
theorem Pages_go {base bb mb cnt : Nat} {L : List Pg} {B : Int → Nat × Nat} (w : World) (h : ME w base bb mb cnt L B) (hcnt : cnt ≤ 100000) (hL : L.length ≤ 100000) : Calls Try.prog 15 #[.pointer (some ⟨bb, 0, none⟩)] w (PgG w (L.map pageOf)) := by
  obtain ⟨D, h⟩ := h
  exact pages_calls base bb mb cnt D L B w h hcnt hL
theorem ME.below {w w' : World} {base bb mb cnt : Nat} {L : List Pg} {B : Int → Nat × Nat} (h : ME w base bb mb cnt L B) (k : Below w.heap.size w w') : ME w' base bb mb cnt L B := by
  obtain ⟨D, h⟩ := h
  exact (h.below k).e
theorem ME.lt {w : World} {base bb mb cnt : Nat} {L : List Pg} {B : Int → Nat × Nat} (h : ME w base bb mb cnt L B) (k : Nat) (hk : k = bb ∨ Mown mb L B k) : base ≤ k ∧ k < w.heap.size := by
  obtain ⟨D, h⟩ := h
  exact h.own_lt k hk
theorem ME.ok {w : World} {base bb mb cnt : Nat} {L : List Pg} {B : Int → Nat × Nat} (h : ME w base bb mb cnt L B) : Srt L ∧ okP L := by
  obtain ⟨D, h⟩ := h
  exact ⟨h.srt, h.okp⟩
theorem ME.far {w w' : World} {base bb mb cnt : Nat} {L : List Pg} {B : Int → Nat × Nat} (h : ME w base bb mb cnt L B) (f : Far (Mown mb L B) w w') : Below base w w' :=
  f.below (by have := h.lt bb (.inl rfl); omega) (fun k hk => (h.lt k (.inr hk)).1)
theorem New_go (w : World) : Calls Try.prog 13 #[] w fun e w' => e = .returned (.pointer (some ⟨w.heap.size + 1, 0, none⟩)) ∧ ME w' w.heap.size (w.heap.size + 1) w.heap.size 0 [] (fun _ => (0, 0)) ∧ Below w.heap.size w w' :=
  (new_calls w).mono fun e w' h => ⟨h.1, h.2.1.e, h.2.2⟩
theorem great_calls (l : List S25) (A : Option Addr) (c : Nat) (w : World) (h : Kd.C k25 w A l.length l) (hc : l.length ≤ c) : ∃ b, (b = false → l.length ≤ 150) ∧ Calls Try.prog 12 #[.slice A l.length c, .slice none 0 0] w fun e w' => e = .returned (.bool b) ∧ Drawn0 w w' := by
  obtain ⟨b, h1, h2⟩ := great_some l
  exact ⟨b, h2, gunnylaw37_Great.calls 2000 A c l none 0 [] b w h hc (Kd.C_nil _ _) (Nat.le_refl _) h1⟩
/-- A row that isn't empty has a block. -/
theorem R_head {α : Type} {d : Kd α} {e : Nat} {w : World} {base : Nat} {ok : Nat → Prop} {A : Option Addr} {c : Nat} {xs : List α} (h : d.R e w base ok (.slice A xs.length c) xs) (hn : 0 < xs.length) : ∃ g, A = some ⟨g, 0, none⟩ := by
  obtain ⟨inner, ho⟩ := Kd.R_own h
  rcases ho.2 with ⟨hv, hl⟩ | ⟨g, cap, cur, hv, _⟩
  · omega
  · injection hv with h1
    exact ⟨g, h1⟩
theorem ans_at {w : World} {g : Nat} {rs : List S28} (h : Kd.C k28 w (some ⟨g, 0, none⟩) rs.length rs) (i : Nat) (hi : i < rs.length) : ∃ A2 c2, w.cell? ⟨g, i * 3, none⟩ = some (.int .i64 rs[i].f0) ∧ w.cell? ⟨g, i * 3 + 1, none⟩ = some (.int .i64 rs[i].f1) ∧ w.cell? ⟨g, i * 3 + 2, none⟩ = some (.slice A2 rs[i].f2.length c2) ∧ rs[i].f2.length ≤ c2 ∧ Kd.C (Kd.int .u8) w A2 rs[i].f2.length rs[i].f2 := by
  obtain ⟨ad, A2, c2, eA, z0, z1, z2, zl, z3⟩ := at_T28 h (i : Int) (by omega) (by omega)
  injection eA with eA
  subst eA
  have hg : rd_T28 rs (i : Int) = rs[i] := by
    unfold rd_T28
    rw [Int.toNat_natCast, List.getD_eq_getElem?_getD, List.getElem?_eq_getElem hi]
    rfl
  rw [hg, Int.toNat_natCast] at z0 z1 z2
  rw [hg] at zl z3
  have ea : (⟨g, 0, none⟩ : Addr).add (i * 3) = ⟨g, i * 3, none⟩ := by
    simp [Addr.add]
    try exact fun h => h.symm
  rw [ea] at z0 z1 z2
  exact ⟨A2, c2, z0, z1, z2, zl, z3⟩
end Go.Proofs.Ytgcgnpinhlmmjaa.Hand
