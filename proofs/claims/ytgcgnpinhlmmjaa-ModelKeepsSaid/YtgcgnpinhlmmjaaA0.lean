/- A flat memory of pages, plainly: pages in rising order of their numbers, what may be used, read, written. No program's memory. -/
import Derived.Test.YtgcgnpinhlmmjaaVa
namespace Go.Proofs.Ytgcgnpinhlmmjaa.Hand
set_option linter.unusedVariables false
set_option linter.unusedSimpArgs false
open Go.RowKit Go.Proofs.Ytgcgnpinhlmmjaa.R Go.Proofs.Ytgcgnpinhlmmjaa.Va

structure Pg where
  n : Int
  perm : Int
  data : List Int

def Srt (l : List Pg) : Prop := l.Pairwise (fun a b => a.n < b.n)
def getP (l : List Pg) (n : Int) : Option Pg := l.find? (fun p => p.n == n)
def hasP (l : List Pg) (n : Int) : Bool := l.any (fun p => p.n == n)
def insP : List Pg → Pg → List Pg
  | [], x => [x]
  | y :: l, x => if x.n < y.n then x :: y :: l else y :: insP l x
def delP (l : List Pg) (n : Int) : List Pg := l.filter (fun p => p.n != n)
def repP (l : List Pg) (x : Pg) : List Pg := l.map (fun p => if p.n = x.n then x else p)

theorem getP_mem {l : List Pg} {n : Int} {p : Pg} (h : getP l n = some p) : p ∈ l ∧ p.n = n :=
  ⟨List.mem_of_find?_eq_some h, by simpa using List.find?_some h⟩
theorem getP_none {l : List Pg} {n : Int} : getP l n = none ↔ ∀ p ∈ l, p.n ≠ n := by
  unfold getP
  rw [List.find?_eq_none]
  simp
theorem hasP_get (l : List Pg) (n : Int) : hasP l n = (getP l n).isSome := by
  cases h : getP l n with
  | none =>
    rw [Option.isSome_none]
    unfold hasP
    rw [List.any_eq_false]
    intro p hp
    have := getP_none.1 h p hp
    simpa using this
  | some p =>
    have := getP_mem h
    rw [Option.isSome_some]
    unfold hasP
    rw [List.any_eq_true]
    exact ⟨p, this.1, by simpa using this.2⟩
theorem hasP_iff {l : List Pg} {n : Int} : hasP l n = true ↔ ∃ p ∈ l, p.n = n := by
  unfold hasP
  rw [List.any_eq_true]
  simp
theorem Srt.uniq {l : List Pg} (h : Srt l) {p q : Pg} (hp : p ∈ l) (hq : q ∈ l) (e : p.n = q.n) : p = q := by
  induction l with
  | nil => cases hp
  | cons x l ih =>
    obtain ⟨h1, h2⟩ := List.pairwise_cons.1 h
    rcases List.mem_cons.1 hp with e1 | hp1 <;> rcases List.mem_cons.1 hq with e2 | hq1
    · rw [e1, e2]
    · have := h1 q hq1; rw [e1] at e; omega
    · have := h1 p hp1; rw [e2] at e; omega
    · exact ih h2 hp1 hq1
theorem Srt.get {l : List Pg} (h : Srt l) {p : Pg} (hp : p ∈ l) : getP l p.n = some p := by
  cases e : getP l p.n with
  | none => exact absurd rfl (getP_none.1 e p hp)
  | some q =>
    obtain ⟨h1, h2⟩ := getP_mem e
    rw [h.uniq h1 hp h2]
theorem mem_insP {l : List Pg} {x q : Pg} : q ∈ insP l x ↔ q = x ∨ q ∈ l := by
  induction l with
  | nil => simp [insP]
  | cons y l ih =>
    unfold insP
    split
    · simp
    · rw [List.mem_cons, ih, List.mem_cons]
      constructor
      · rintro (h | h | h)
        · exact .inr (.inl h)
        · exact .inl h
        · exact .inr (.inr h)
      · rintro (h | h | h)
        · exact .inr (.inl h)
        · exact .inl h
        · exact .inr (.inr h)
theorem Srt.ins {l : List Pg} (h : Srt l) (x : Pg) (hn : hasP l x.n = false) : Srt (insP l x) := by
  induction l with
  | nil => exact List.pairwise_singleton _ _
  | cons y l ih =>
    obtain ⟨h1, h2⟩ := List.pairwise_cons.1 h
    have hn' : ¬ ∃ p ∈ y :: l, p.n = x.n := fun hc => by rw [hasP_iff.2 hc] at hn; cases hn
    unfold insP
    split
    · rename_i hlt
      refine List.pairwise_cons.2 ⟨?_, h⟩
      intro q hq
      rcases List.mem_cons.1 hq with rfl | hq
      · exact hlt
      · have := h1 q hq; omega
    · rename_i hge
      refine List.pairwise_cons.2 ⟨?_, ih h2 ?_⟩
      · intro q hq
        rcases mem_insP.1 hq with rfl | hq
        · have : y.n ≠ q.n := fun e => hn' ⟨y, List.mem_cons_self .., e⟩
          omega
        · exact h1 q hq
      · cases hc : hasP l x.n with
        | false => rfl
        | true =>
          obtain ⟨p, hp, e⟩ := hasP_iff.1 hc
          exact absurd ⟨p, List.mem_cons_of_mem _ hp, e⟩ hn'
theorem mem_delP {l : List Pg} {n : Int} {q : Pg} : q ∈ delP l n ↔ q ∈ l ∧ q.n ≠ n := by
  unfold delP
  rw [List.mem_filter]
  simp
theorem Srt.del {l : List Pg} (h : Srt l) (n : Int) : Srt (delP l n) := List.Pairwise.filter _ h
theorem repP_ns (l : List Pg) (x : Pg) : (repP l x).map (·.n) = l.map (·.n) := by
  unfold repP
  rw [List.map_map]
  apply List.map_congr_left
  intro p _
  simp only [Function.comp_apply]
  split
  · rename_i h; exact h.symm
  · rfl
theorem srt_ns {l : List Pg} : Srt l ↔ (l.map (·.n)).Pairwise (· < ·) := by
  unfold Srt
  rw [List.pairwise_map]
theorem Srt.rep {l : List Pg} (h : Srt l) (x : Pg) : Srt (repP l x) := by
  rw [srt_ns, repP_ns, ← srt_ns]
  exact h
theorem hasP_ns (l : List Pg) (n : Int) : hasP l n = (l.map (·.n)).any (· == n) := by
  unfold hasP
  rw [List.any_map]
  rfl
theorem hasP_rep (l : List Pg) (x : Pg) (n : Int) : hasP (repP l x) n = hasP l n := by rw [hasP_ns, repP_ns, ← hasP_ns]
theorem mem_repP {l : List Pg} {x q : Pg} (h : q ∈ repP l x) : (q = x ∧ hasP l x.n = true) ∨ (q ∈ l ∧ q.n ≠ x.n) := by
  unfold repP at h
  obtain ⟨p, hp, e⟩ := List.mem_map.1 h
  split at e
  · rename_i hpx
    exact .inl ⟨e.symm, hasP_iff.2 ⟨p, hp, hpx⟩⟩
  · rename_i hpx
    exact .inr ⟨e ▸ hp, e ▸ hpx⟩
theorem getP_rep (l : List Pg) (x : Pg) (n : Int) : getP (repP l x) n = if n = x.n then (if hasP l n then some x else none) else getP l n := by
  unfold getP repP hasP
  induction l with
  | nil => simp
  | cons y l ih =>
    rw [List.map_cons, List.find?_cons, List.find?_cons, List.any_cons, ih]
    by_cases hy : y.n = x.n
    · rw [if_pos hy]
      by_cases hx : n = x.n
      · subst hx
        simp [hy]
      · have h1 : (x.n == n) = false := by simpa using fun e => hx e.symm
        have h2 : (y.n == n) = false := by rw [hy]; exact h1
        rw [if_neg hx, if_neg hx, h1, h2]
    · rw [if_neg hy]
      by_cases hx : n = x.n
      · subst hx
        have h2 : (y.n == x.n) = false := by simpa using hy
        simp [h2]
      · rw [if_neg hx, if_neg hx]
theorem mem_rep_self {l : List Pg} {x : Pg} (h : hasP l x.n = true) : x ∈ repP l x := by
  have := getP_rep l x x.n
  rw [if_pos rfl, if_pos h] at this
  exact (getP_mem this).1
theorem mem_rep_other {l : List Pg} {x q : Pg} (h : q ∈ l) (hn : q.n ≠ x.n) : q ∈ repP l x := by
  unfold repP
  exact List.mem_map.2 ⟨q, h, if_neg hn⟩

/-! bytes -/
def pnum (a : Nat) : Int := ((a % 281474976710656 / 4096 : Nat) : Int)
theorem pnum_lt (a : Nat) : 0 ≤ pnum a ∧ pnum a < 68719476736 := by unfold pnum; omega
def addr (a i : Nat) : Nat := (a + i) % 18446744073709551616
theorem addr_lt (a i : Nat) : addr a i < 18446744073709551616 := Nat.mod_lt _ (by decide)
def canonB (a : Nat) : Bool := decide (sp a = a)
/-- Why a byte may not be used so: an error's number. -/
def may1 (l : List Pg) (a : Nat) (use : Int) (i : Nat) : Int :=
  if addr a i < a then 8 else if canonB (addr a i) = false then 8 else
  match getP l (pnum (addr a i)) with
  | none => 9
  | some p => if Go.bits .and .i64 p.perm use = 0 then 10 else 0
def mayF (l : List Pg) (a : Nat) (use : Int) : Nat → Nat → Int
  | _, 0 => 0
  | i, d + 1 => if may1 l a use i = 0 then mayF l a use (i + 1) d else may1 l a use i
def mayB (l : List Pg) (a : Nat) (n use : Int) : Int := if n < 1 then 1 else if n > 64 then 1 else mayF l a use 0 n.toNat
theorem mayF_zero {l : List Pg} {a : Nat} {use : Int} {d : Nat} : ∀ {i : Nat}, mayF l a use i d = 0 → ∀ j, i ≤ j → j < i + d → may1 l a use j = 0 := by
  induction d with
  | zero => intro i h j h1 h2; omega
  | succ d ih =>
    intro i h j h1 h2
    unfold mayF at h
    split at h
    · rename_i h0
      by_cases e : j = i
      · rw [e]; exact h0
      · exact ih h j (by omega) (by omega)
    · rename_i h0
      exact absurd h h0
theorem may1_zero {l : List Pg} {a : Nat} {use : Int} {i : Nat} (h : may1 l a use i = 0) : ¬ addr a i < a ∧ canonB (addr a i) = true ∧ ∃ p, getP l (pnum (addr a i)) = some p ∧ Go.bits .and .i64 p.perm use ≠ 0 := by
  unfold may1 at h
  split at h
  · cases h
  · rename_i h1
    split at h
    · cases h
    · rename_i h2
      split at h
      · cases h
      · rename_i p hp
        split at h
        · cases h
        · rename_i h3
          exact ⟨h1, by simpa using h2, p, hp, h3⟩
def byteAt (l : List Pg) (b : Nat) : Int := match getP l (pnum b) with
  | none => 0
  | some p => p.data.getD (b % 4096) 0
def setB (l : List Pg) (b : Nat) (x : Int) : List Pg := match getP l (pnum b) with
  | none => l
  | some p => repP l ⟨p.n, p.perm, p.data.set (b % 4096) x⟩
def readF (l : List Pg) (a n : Nat) : List Int := (List.range n).map (fun i => byteAt l (addr a i))
def storeF (l : List Pg) (a : Nat) : Nat → List Int → List Pg
  | _, [] => l
  | i, x :: xs => storeF (setB l (addr a i) x) a (i + 1) xs

/-! operations -/
def permB (p : Int) : Bool := decide (p = 1 ∨ p = 3 ∨ p = 4 ∨ p = 5 ∨ p = 7)
def atE (a : Nat) : Int := if canonB a = false then 8 else if a % 4096 ≠ 0 then 1 else 0
def mapE (l : List Pg) (a : Nat) (perm : Int) : Int := if atE a ≠ 0 then atE a else if permB perm = false then 1 else if hasP l (pnum a) = true then 7 else 0
def unmapE (l : List Pg) (a : Nat) : Int := if atE a ≠ 0 then atE a else if hasP l (pnum a) = true then 0 else 9
def protE (l : List Pg) (a : Nat) (perm : Int) : Int := if atE a ≠ 0 then atE a else if permB perm = false then 1 else if hasP l (pnum a) = true then 0 else 9
def mapL (l : List Pg) (a : Nat) (perm : Int) : List Pg := if mapE l a perm = 0 then insP l ⟨pnum a, perm, List.replicate 4096 0⟩ else l
def unmapL (l : List Pg) (a : Nat) : List Pg := if unmapE l a = 0 then delP l (pnum a) else l
def protL (l : List Pg) (a : Nat) (perm : Int) : List Pg := if protE l a perm = 0 then (match getP l (pnum a) with
  | none => l
  | some p => repP l ⟨p.n, perm, p.data⟩) else l
def storeL (l : List Pg) (a : Nat) (data : List Int) : List Pg := if mayB l a (data.length : Int) 2 = 0 then storeF l a 0 data else l
def readD (l : List Pg) (a : Nat) (n use : Int) : List Int := if mayB l a n use = 0 then readF l a n.toNat else []
/-- What an op does: the pages behind, the error's number, the bytes. -/
def doesL (l : List Pg) (o : S25) : List Pg × Int × List Int :=
  if o.f0 = 0 then (mapL l o.f3.toNat o.f1, mapE l o.f3.toNat o.f1, [])
  else if o.f0 = 1 then (unmapL l o.f3.toNat, unmapE l o.f3.toNat, [])
  else if o.f0 = 2 then (protL l o.f3.toNat o.f1, protE l o.f3.toNat o.f1, [])
  else if o.f0 = 3 then (l, mayB l o.f3.toNat o.f2 1, readD l o.f3.toNat o.f2 1)
  else if o.f0 = 5 then (l, mayB l o.f3.toNat o.f2 4, readD l o.f3.toNat o.f2 4)
  else if o.f0 = 4 then (storeL l o.f3.toNat o.f4, mayB l o.f3.toNat (o.f4.length : Int) 2, [])
  else if o.f0 = 10 then (l, if 4 ≤ o.f2 ∧ o.f2 ≤ 96 then 0 else 1, [])
  else if o.f0 = 6 then (l, 0, [])
  else if o.f0 = 7 then (l, 0, [])
  else if o.f0 = 8 then (l, 0, [])
  else if o.f0 = 9 then (l, 0, [])
  else (l, 1, [])

/-- What holds of pages. -/
def okP (l : List Pg) : Prop := ∀ p ∈ l, (0 ≤ p.n ∧ p.n < 68719476736) ∧ permB p.perm = true ∧ p.data.length = 4096 ∧ ∀ x ∈ p.data, 0 ≤ x ∧ x < 256
theorem okP.ins {l : List Pg} (h : okP l) (a : Nat) (perm : Int) (hp : permB perm = true) : okP (insP l ⟨pnum a, perm, List.replicate 4096 0⟩) := by
  intro q hq
  rcases mem_insP.1 hq with rfl | hq
  · exact ⟨pnum_lt a, hp, List.length_replicate, fun x hx => by rw [List.eq_of_mem_replicate hx]; omega⟩
  · exact h q hq
theorem okP.del {l : List Pg} (h : okP l) (n : Int) : okP (delP l n) := fun q hq => h q (mem_delP.1 hq).1
theorem okP.rep {l : List Pg} (h : okP l) (x : Pg) (hx : (0 ≤ x.n ∧ x.n < 68719476736) ∧ permB x.perm = true ∧ x.data.length = 4096 ∧ ∀ y ∈ x.data, 0 ≤ y ∧ y < 256) : okP (repP l x) := by
  intro q hq
  rcases mem_repP hq with ⟨rfl, _⟩ | ⟨hq, _⟩
  · exact hx
  · exact h q hq
theorem mem_set {l : List Int} {i : Nat} {x y : Int} (h : y ∈ l.set i x) : y = x ∨ y ∈ l := by
  rcases List.mem_or_eq_of_mem_set h with h | h
  · exact .inr h
  · exact .inl h
theorem okP.setB {l : List Pg} (h : okP l) (b : Nat) (x : Int) (hx : 0 ≤ x ∧ x < 256) : okP (setB l b x) := by
  unfold Hand.setB
  split
  · exact h
  · rename_i p hp
    obtain ⟨h1, h2, h3, h4⟩ := h p (getP_mem hp).1
    refine h.rep _ ⟨h1, h2, by rw [List.length_set]; exact h3, ?_⟩
    intro y hy
    rcases mem_set hy with rfl | hy
    · exact hx
    · exact h4 y hy
theorem Srt.setB {l : List Pg} (h : Srt l) (b : Nat) (x : Int) : Srt (setB l b x) := by
  unfold Hand.setB
  split
  · exact h
  · exact h.rep _
/-- Keys and perms stay where bytes are written. -/
theorem getP_setB (l : List Pg) (b : Nat) (x : Int) (n : Int) : (getP (setB l b x) n).map (·.perm) = (getP l n).map (·.perm) := by
  unfold setB
  split
  · rfl
  · rename_i p hp
    have hpn := (getP_mem hp).2
    rw [getP_rep]
    split
    · rename_i e
      have e' : n = p.n := e
      subst e'
      rw [hasP_get, hpn, hp]
      rfl
    · rfl
theorem may1_perm {l l' : List Pg} (h : ∀ n, (getP l' n).map (·.perm) = (getP l n).map (·.perm)) (a : Nat) (use : Int) (i : Nat) : may1 l' a use i = may1 l a use i := by
  unfold may1
  have := h (pnum (addr a i))
  cases h1 : getP l (pnum (addr a i)) with
  | none =>
    cases h2 : getP l' (pnum (addr a i)) with
    | none => rfl
    | some q => rw [h1, h2] at this; cases this
  | some p =>
    cases h2 : getP l' (pnum (addr a i)) with
    | none => rw [h1, h2] at this; cases this
    | some q =>
      rw [h1, h2] at this
      have e : q.perm = p.perm := Option.some.inj this
      simp only [e]
theorem storeF_snoc (l : List Pg) (a : Nat) (xs : List Int) : ∀ (i : Nat) (x : Int) (l : List Pg), storeF l a i (xs ++ [x]) = setB (storeF l a i xs) (addr a (i + xs.length)) x := by
  induction xs with
  | nil => intro i x l; simp [storeF]
  | cons y xs ih =>
    intro i x l
    rw [List.cons_append]
    show storeF (setB l (addr a i) y) a (i + 1) (xs ++ [x]) = _
    rw [ih]
    show _ = setB (storeF (setB l (addr a i) y) a (i + 1) xs) _ x
    rw [List.length_cons, show i + (xs.length + 1) = i + 1 + xs.length by omega]
theorem storeF_take (l : List Pg) (a : Nat) (xs : List Int) (j : Nat) (hj : j < xs.length) : storeF l a 0 (xs.take (j + 1)) = setB (storeF l a 0 (xs.take j)) (addr a j) (xs.getD j 0) := by
  rw [List.take_succ_eq_append_getElem hj, storeF_snoc l, Nat.zero_add, List.length_take, Nat.min_eq_left (Nat.le_of_lt hj)]
  congr 1
  rw [List.getD_eq_getElem?_getD, List.getElem?_eq_getElem hj, Option.getD_some]
theorem storeF_perm (a : Nat) (xs : List Int) : ∀ (i : Nat) (l : List Pg) (n : Int), (getP (storeF l a i xs) n).map (·.perm) = (getP l n).map (·.perm) := by
  induction xs with
  | nil => intro i l n; rfl
  | cons y xs ih =>
    intro i l n
    show (getP (storeF (setB l (addr a i) y) a (i + 1) xs) n).map (·.perm) = _
    rw [ih, getP_setB]
theorem okP.storeF {a : Nat} (xs : List Int) (hx : ∀ x ∈ xs, 0 ≤ x ∧ x < 256) : ∀ {l : List Pg} (i : Nat), okP l → okP (storeF l a i xs) := by
  induction xs with
  | nil => intro l i h; exact h
  | cons y xs ih => intro l i h; exact ih (fun x hm => hx x (List.mem_cons_of_mem _ hm)) (i + 1) (h.setB _ y (hx y (List.mem_cons_self ..)))
theorem Srt.storeF {a : Nat} (xs : List Int) : ∀ {l : List Pg} (i : Nat), Srt l → Srt (storeF l a i xs) := by
  induction xs with
  | nil => intro l i h; exact h
  | cons y xs ih => intro l i h; exact ih (i + 1) (h.setB _ y)
end Go.Proofs.Ytgcgnpinhlmmjaa.Hand
