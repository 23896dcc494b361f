/- How a datum that came in is read as the printed words read it: whole numbers, bools, slices, structs, one in the other. No program. -/
import Derived.OpenShut
import Derived.Test.YtgcgnpinhlmmjaaWMore
namespace Go.Proofs.Ytgcgnpinhlmmjaa.Opens
set_option linter.unusedVariables false
set_option linter.unusedSimpArgs false
open Go.RowKit Go.Proofs.YtgcgnpinhlmmjaaW.PrintWords

/-- Of type t: whatever cells read as a datum are some x's, which has R. -/
def Opens {α : Type} (P : Program) (d : Kd α) (t : TypeId) (R : α → Prop) : Prop :=
  P.cellsOf t = d.sz ∧ ∀ {H : Type} (enc : TypeId × Value → H) (w : World) (base : Nat) (spare : Nat → Bool) (held : Bool) (fuel : Nat) (cs : List Value) (x : DataW H × List MemPlace),
    DataW.trod enc P w base spare held fuel t cs = some x → ∃ y, d.K w y cs ∧ R y

theorem opens_int {P : Program} {t : TypeId} {k : IntKind} (ht : P.underlying t = some (.int k)) (hc : P.cellsOf t = 1) : Opens P (Kd.int k) t (fun n => (Lit.int k n).wf = true) := by
  refine ⟨hc, fun enc w base spare held fuel cs x h => ?_⟩
  obtain ⟨n, rfl, _, hw⟩ := DataW.trod_int ht h
  exact ⟨n, rfl, hw⟩
theorem opens_bool {P : Program} {t : TypeId} (ht : P.underlying t = some .bool) (hc : P.cellsOf t = 1) : Opens P Kd.bool t (fun _ => True) := by
  refine ⟨hc, fun enc w base spare held fuel cs x h => ?_⟩
  obtain ⟨n, rfl, _⟩ := DataW.trod_bool ht h
  exact ⟨n, rfl, trivial⟩
theorem opens_iso {α β : Type} {P : Program} {d : Kd α} {t : TypeId} {R : α → Prop} {f : β → α} (g : α → β) (hg : ∀ a, f (g a) = a) (h : Opens P d t R) : Opens P (Kd.iso d f) t (fun y => R (f y)) := by
  refine ⟨h.1, fun enc w base spare held fuel cs x hx => ?_⟩
  obtain ⟨y, hk, hr⟩ := h.2 enc w base spare held fuel cs x hx
  exact ⟨g y, by show d.K w (f (g y)) cs; rw [hg]; exact hk, by show R (f (g y)); rw [hg]; exact hr⟩

theorem list_of {α : Type} {Q : Nat → α → Prop} (n : Nat) (h : ∀ i, i < n → ∃ y, Q i y) : ∃ ys : List α, ys.length = n ∧ ∀ i y, ys[i]? = some y → Q i y := by
  induction n with
  | zero => exact ⟨[], rfl, fun i y hy => by simp at hy⟩
  | succ n ih =>
    obtain ⟨ys, hl, hq⟩ := ih (fun i hi => h i (by omega))
    obtain ⟨y, hy⟩ := h n (by omega)
    refine ⟨ys ++ [y], by simp [hl], fun i z hz => ?_⟩
    by_cases hi : i < n
    · rw [List.getElem?_append_left (by omega)] at hz
      exact hq i z hz
    · rw [List.getElem?_append_right (by omega)] at hz
      have : i = n := by
        have := (List.getElem?_eq_some_iff.1 hz).1
        simp at this
        omega
      subst this
      simp [hl] at hz
      rw [← hz]
      exact hy

theorem cells_cell {w : World} {base : Nat} {a : Addr} {n : Nat} {cs : List Value} (h : w.cells? base a n = some cs) : cs.length = n ∧ ∀ i u, cs[i]? = some u → w.cell? (a.add i) = some u := by
  unfold World.cells? at h
  split at h
  · have hl := mapM_some_length h
    refine ⟨by simpa using hl, fun i u hu => ?_⟩
    have hi : i < n := by
      have := (List.getElem?_eq_some_iff.1 hu).1
      simp at hl
      omega
    have := mapM_some_get h i i (by simp [hi])
    rw [hu] at this
    exact this
  · simp at h

theorem opens_slice {α : Type} {P : Program} {d : Kd α} {t e : TypeId} {R : α → Prop} (ht : P.underlying t = some (.slice e)) (hc : P.cellsOf t = 1) (h : Opens P d e R) : Opens P (Kd.slice e d) t (fun xs => xs.length ≤ maxLen ∧ ∀ x ∈ xs, R x) := by
  refine ⟨hc, fun enc w base spare held fuel cs x hx => ?_⟩
  rcases DataW.trod_slice ht hx with ⟨rfl, _⟩ | ⟨a, len, cap, elems, rest, n, _, rfl, _, _, hl, hm, hel, hes, _⟩
  · exact ⟨[], ⟨none, 0, rfl, Nat.le_refl _, Kd.C_nil d w⟩, Nat.zero_le _, fun x hx => by simp at hx⟩
  · have each : ∀ i, i < len → ∃ y, (∃ cs, cs.length = d.sz ∧ d.K w y cs ∧ ∀ j u, cs[j]? = some u → w.cell? (a.add (i * d.sz + j)) = some u) ∧ R y := by
      intro i hi
      have h1 := hes i hi
      rw [List.getElem?_eq_getElem (by omega)] at h1
      obtain ⟨cs, hcs, htr⟩ := Option.bind_eq_some_iff.mp h1
      obtain ⟨y, hk, hr⟩ := h.2 enc w base spare held n cs _ htr
      obtain ⟨hlen, hcell⟩ := cells_cell hcs
      rw [h.1] at hlen hcell
      refine ⟨y, ⟨cs, hlen, hk, fun j u hu => ?_⟩, hr⟩
      have := hcell j u hu
      rw [← this]
      refine congrArg _ ?_
      by_cases h1 : i * d.sz = 0
      · by_cases h2 : j = 0
        · simp [Addr.add, h1, h2]
        · simp [Addr.add, h1, h2]
      · by_cases h2 : j = 0
        · simp [Addr.add, h1, h2]
        · simp [Addr.add, h1, h2, Nat.add_assoc]
    obtain ⟨ys, hyl, hys⟩ := list_of len each
    refine ⟨ys, ⟨some a, cap, by rw [hyl], by omega, ⟨rfl, by rw [hyl]; exact Nat.le_trans (Nat.le_trans hl hm) (by decide), fun _ => ⟨a, rfl, fun j p hp => (hys j p hp).1⟩⟩⟩, by omega, fun x hx => ?_⟩
    obtain ⟨i, hi⟩ := List.getElem?_of_mem hx
    exact (hys i x hi).2

/-- Some of a struct's fields, which begin at a cell. -/
def OpensF {α : Type} (P : Program) (d : Kd α) (fs : List Field) (off : Nat) (R : α → Prop) : Prop :=
  ∀ {H : Type} (enc : TypeId × Value → H) (w : World) (base : Nat) (spare : Nat → Bool) (held : Bool) (n : Nat) (cs : List Value),
    (∀ f ∈ fs, ∃ x, DataW.trod enc P w base spare held n f.type ((cs.drop f.offset).take (P.cellsOf f.type)) = some x) → ∃ y, d.K w y ((cs.drop off).take d.sz) ∧ R y
theorem opensF_one {α : Type} {P : Program} {d : Kd α} {f : Field} {off : Nat} {R : α → Prop} (ho : f.offset = off) (h : Opens P d f.type R) : OpensF P d [f] off R := by
  intro H enc w base spare held n cs hf
  obtain ⟨x, hx⟩ := hf f (List.mem_cons_self ..)
  rw [ho, h.1] at hx
  exact h.2 enc w base spare held n _ x hx
theorem opensF_cons {α β : Type} {P : Program} {d : Kd α} {e : Kd β} {f : Field} {fs : List Field} {off : Nat} {R : α → Prop} {S : β → Prop} (ho : f.offset = off) (h : Opens P d f.type R) (hs : OpensF P e fs (off + d.sz) S) :
    OpensF P (Kd.pair d e) (f :: fs) off (fun y => R y.1 ∧ S y.2) := by
  intro H enc w base spare held n cs hf
  obtain ⟨x, hx⟩ := hf f (List.mem_cons_self ..)
  rw [ho, h.1] at hx
  obtain ⟨y, hk, hr⟩ := h.2 enc w base spare held n _ x hx
  obtain ⟨z, hk2, hr2⟩ := hs enc w base spare held n cs (fun g hg => hf g (List.mem_cons_of_mem _ hg))
  refine ⟨(y, z), ⟨_, _, ?_, hk, hk2⟩, hr, hr2⟩
  show (cs.drop off).take (d.sz + e.sz) = _
  rw [List.take_add, List.drop_drop]
theorem opens_struct {α : Type} {P : Program} {d : Kd α} {t : TypeId} {fs : Array Field} {R : α → Prop} (ht : P.underlying t = some (.struct fs)) (hc : P.cellsOf t = d.sz) (h : OpensF P d fs.toList 0 R) : Opens P d t R := by
  refine ⟨hc, fun enc w base spare held fuel cs x hx => ?_⟩
  obtain ⟨xs, n, _, _, hl, hxl, hf⟩ := DataW.trod_struct ht hx
  have := h enc w base spare held n cs (fun f hm => by
    obtain ⟨i, hi⟩ := List.getElem?_of_mem hm
    have hi' : fs[i]? = some f := by simpa using hi
    have h2 := hf i f hi'
    have h3 : i < xs.length := by
      have := (Array.getElem?_eq_some_iff.1 hi').1
      omega
    rw [List.getElem?_eq_getElem h3] at h2
    exact ⟨_, h2⟩)
  rw [List.drop_zero, List.take_of_length_le (by omega)] at this
  exact this

/-- A slice that came in: what it reads. -/
theorem row_of {α : Type} {H : Type} {enc : TypeId × Value → H} {P : Program} {W : World} {base : Nat} {spare : Nat → Bool} {held : Bool} {d : Kd α} {t e : TypeId} {R : α → Prop} {a : Option Addr} {len cap : Nat} {x : DataW H} {ps : List MemPlace}
    (ht : P.underlying t = some (.slice e)) (hc : P.cellsOf t = 1) (h : Opens P d e R) (hx : DataW.Trod enc P W base spare held t (.slice a len cap) x ps) :
    ∃ xs : List α, len = xs.length ∧ xs.length ≤ cap ∧ d.C W a xs.length xs ∧ xs.length ≤ maxLen ∧ ∀ x ∈ xs, R x := by
  obtain ⟨fuel, hf⟩ := hx
  obtain ⟨xs, ⟨A, c, he, hle, hC⟩, hm, hR⟩ := (opens_slice ht hc h).2 enc W base spare held fuel _ _ hf
  simp [Value.cells] at he
  obtain ⟨rfl, rfl, rfl⟩ := he
  exact ⟨xs, rfl, hle, hC, hm, hR⟩

/-- An array by value. -/
theorem okWide_array {P : Program} {w : World} {r : Reach} {base : Nat} {t e : TypeId} {n : Nat} {v : Value} (ht : P.underlying t = some (.array n e)) (h : Value.okWide P w r base t v) : ∃ cs, v = .agg cs := by
  unfold Value.okWide at h
  rw [ht] at h
  obtain ⟨cs, rfl, _⟩ := h
  exact ⟨cs, rfl⟩
theorem arr_of {H : Type} {enc : TypeId × Value → H} {P : Program} {W : World} {base : Nat} {spare : Nat → Bool} {held : Bool} {t e : TypeId} {n : Nat} {k : IntKind} {cs : Array Value} {x : DataW H} {ps : List MemPlace}
    (ht : P.underlying t = some (.array n e)) (he : P.underlying e = some (.int k)) (hce : P.cellsOf e = 1) (hct : P.cellsOf t = n) (hx : DataW.Trod enc P W base spare held t (.agg cs) x ps) :
    ∃ xs : List Int, cs = (xs.map (Value.int k)).toArray ∧ xs.length = n ∧ ∀ x ∈ xs, (Lit.int k x).wf = true := by
  obtain ⟨fuel, hf⟩ := hx
  obtain ⟨xs, m, _, _, hl, hxl, hget⟩ := DataW.trod_array ht hf
  have hcs : (Value.agg cs).cells.toList = cs.toList := rfl
  rw [hcs] at hl hget
  rw [hct] at hl
  obtain ⟨ys, hyl, hys⟩ := list_of (Q := fun i y => cs.toList[i]? = some (Value.int k y) ∧ (Lit.int k y).wf = true) n (fun i hi => by
    have h1 := hget i hi
    rw [List.getElem?_eq_getElem (by omega), hce, Nat.mul_one] at h1
    obtain ⟨y, hy, _, hw⟩ := DataW.trod_int he h1
    refine ⟨y, ?_, hw⟩
    have h2 := congrArg (fun l => l[0]?) hy
    simp only [List.getElem?_take, List.getElem?_drop] at h2
    simpa using h2)
  refine ⟨ys, ?_, hyl, fun x hx => ?_⟩
  · apply Array.ext'
    apply List.ext_getElem?
    intro i
    by_cases hi : i < n
    · have hy := hys i (ys[i]'(by omega)) (List.getElem?_eq_getElem (by omega))
      rw [hy.1]
      simp [hyl, hi]
    · rw [List.getElem?_eq_none (by omega), List.getElem?_eq_none (by simp; omega)]
  · obtain ⟨i, hi⟩ := List.getElem?_of_mem hx
    exact (hys i x hi).2

/-- A struct by value. -/
theorem agg_of {α : Type} {H : Type} {enc : TypeId × Value → H} {P : Program} {W : World} {base : Nat} {spare : Nat → Bool} {held : Bool} {d : Kd α} {t : TypeId} {R : α → Prop} {cs : Array Value} {x : DataW H} {ps : List MemPlace}
    (h : Opens P d t R) (hx : DataW.Trod enc P W base spare held t (.agg cs) x ps) : ∃ y, d.K W y cs.toList ∧ R y := by
  obtain ⟨fuel, hf⟩ := hx
  exact h.2 enc W base spare held fuel _ _ hf
theorem opens_array {α : Type} {P : Program} {d : Kd α} {t e : TypeId} {n : Nat} {R : α → Prop} (ht : P.underlying t = some (.array n e)) (h : Opens P d e R) {H : Type} (enc : TypeId × Value → H) (w : World) (base : Nat) (spare : Nat → Bool) (held : Bool) (fuel : Nat) (cs : List Value) (x : DataW H × List MemPlace)
    (hx : DataW.trod enc P w base spare held fuel t cs = some x) : ∃ ys : List α, ys.length = n ∧ ∀ i y, ys[i]? = some y → d.K w y ((cs.drop (i * d.sz)).take d.sz) ∧ R y := by
  obtain ⟨xs, m, _, _, hl, hxl, hget⟩ := DataW.trod_array ht hx
  exact list_of n (fun i hi => by
    have h1 := hget i hi
    rw [List.getElem?_eq_getElem (by omega), h.1] at h1
    exact h.2 enc w base spare held m _ _ h1)

end Go.Proofs.Ytgcgnpinhlmmjaa.Opens
